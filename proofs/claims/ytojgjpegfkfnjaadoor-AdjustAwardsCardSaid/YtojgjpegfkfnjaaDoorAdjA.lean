/- adjust: played, some, none, weighted. -/
import Derived.Test.YtojgjpegfkfnjaaDoorEntA
namespace Go.Proofs.YtojgjpegfkfnjaaDoor
open Go.RowKit
set_option linter.unusedVariables false
set_option linter.unusedSimpArgs false
set_option maxRecDepth 100000

/-- An outcome is played out. -/
def playedB (o : Oc) : Bool := okRB o.l o.d o.r o.s o.n
theorem oc_box (w : World) (o : Oc) : ∃ W g, W = w.alloc (.cells #[.int .u8 o.l, .int .u8 o.d, .int .u8 o.r, .int .u8 o.s, .int .i64 o.n, .int .i64 o.wt] 25) ∧ g = w.heap.size ∧ RowAt W g (ocC o).toArray ∧ Below w.heap.size w W := ⟨_, _, rfl, rfl, row_new w _ _, sst1 _ _⟩
theorem oc_cells {W : World} {g : Nat} {o : Oc} (h : RowAt W g (ocC o).toArray) : W.cell? ⟨g, 0, none⟩ = some (.int .u8 o.l) ∧ W.cell? ⟨g, 1, none⟩ = some (.int .u8 o.d) ∧ W.cell? ⟨g, 2, none⟩ = some (.int .u8 o.r) ∧ W.cell? ⟨g, 3, none⟩ = some (.int .u8 o.s) ∧ W.cell? ⟨g, 4, none⟩ = some (.int .i64 o.n) ∧ W.cell? ⟨g, 5, none⟩ = some (.int .i64 o.wt) :=
  ⟨(h 0 _ rfl).1, (h 1 _ rfl).1, (h 2 _ rfl).1, (h 3 _ rfl).1, (h 4 _ rfl).1, (h 5 _ rfl).1⟩
theorem okSB_zero (o : Oc) : okSB o.l o.d o.r o.s o.n 0 = playedB o := by unfold okSB playedB; simp
set_option maxHeartbeats 1000000 in
theorem played_any (o : Oc) (w : World) (ho : o.ok) : Calls Tryd.prog 98 #[ocV o] w fun e w' => e = .returned (.bool (playedB o)) ∧ Below w.heap.size w w' := by
  have HS := Sec.mk fun w' => gScore_any o.l o.d o.r o.s o.n 0 w' ho.1 ho.2.1 (by omega)
  rw [okSB_zero] at HS
  clear ho
  generalize scoreG o.l o.d o.r o.s o.n 0 = Z at *
  generalize playedB o = B at *
  obtain ⟨l, d, r, s, n, wt⟩ := o
  cases B
  all_goals
    simp only [if_true, if_false, Bool.false_eq_true] at HS
    go_enter Tryd.func98, Tryd.ntmps98
    go_wp2_with fail
    obtain ⟨W, g, e1, e2, P, hB⟩ := oc_box w ⟨l, d, r, s, n, wt⟩
    dsimp only at e1
    rw [← e1, ← e2]
    clear e1 e2
    obtain ⟨c0, c1, c2, c3, c4, c5⟩ := oc_cells P
    clear P
    refine (HS.out _).mono ?_
    rintro e w1 ⟨rfl, hb1⟩
    go_wp2_with fail
    go_ret
    exact ⟨rfl, sbtr hB hb1⟩
/-- An outcome that is not as it should be, with or without a weight. -/
def badO (wts : Bool) (o : Oc) : Bool := !playedB o || (wts != decide (0 < o.wt)) || decide (o.wt < 0)
set_option maxHeartbeats 1000000 in
theorem some1_any (o : Oc) (wts : Bool) (g1 : Nat) (w : World) (ho : o.ok) (hc : w.cell? ⟨g1, 0, none⟩ = some (.bool wts)) : Calls Tryd.prog 97 #[ocV o, .pointer (some ⟨g1, 0, none⟩)] w fun e w' => e = .returned (.bool (badO wts o)) ∧ Below w.heap.size w w' := by
  have HP := Sec.mk fun w' => played_any o w' ho
  have hS : Sec (badO wts o = (!playedB o || (wts != decide (0 < o.wt)) || decide (o.wt < 0))) := ⟨rfl⟩
  clear ho
  generalize badO wts o = R at *
  generalize playedB o = B at *
  obtain ⟨l, d, r, s, n, wt⟩ := o
  dsimp only at hS
  go_enter Tryd.func97, Tryd.ntmps97
  go_wp2_with fail
  obtain ⟨W, g, e1, e2, P, hB⟩ := oc_box w ⟨l, d, r, s, n, wt⟩
  dsimp only at e1
  rw [← e1, ← e2]
  clear e1 e2
  have hc := sc_later hB hc
  refine (HP.out _).mono ?_
  rintro e w1 ⟨rfl, hb1⟩
  have hc := sc_later hb1 hc
  obtain ⟨c0, c1, c2, c3, c4, c5⟩ := oc_cells (P.later hb1)
  have hB1 := sbtr hB hb1
  clear P HP hb1
  cases B
  · go_wp2_with fail
    all_goals
      go_ret
      exact ⟨scret_b (by rw [hS.out]; simp [*]), hB1⟩
  · by_cases h1 : (wts != decide (0 < wt)) = true
    · have h2 : (!wts == decide (0 < wt)) = true := by revert h1; cases wts <;> cases decide (0 < wt) <;> simp
      go_wp2_with fail
      all_goals
        go_ret
        exact ⟨scret_b (by rw [hS.out]; first | (simp [*]; done) | (cases wts <;> simp_all) | (cases wts <;> simp_all <;> omega)), hB1⟩
    · have h1' : (wts != decide (0 < wt)) = false := by simpa using h1
      clear h1
      go_wp2_with fail
      all_goals
        go_ret
        exact ⟨scret_b (by rw [hS.out]; first | (simp [*]; done) | (cases wts <;> simp_all) | (cases wts <;> simp_all <;> omega)), hB1⟩
set_option maxHeartbeats 400000 in
theorem index_ocs (k0 : Nat) (caps : Array Value) (f : Oc → Bool) (A : Option Addr) (c : Nat) (r : List Oc) (w : World) (hr : Ocs w A r) (hl : r.length ≤ 140737488351232)
    (hcf : ∀ (args : Array Value) (w : World), (callFunc k0 args).run Tryd.prog w = .ok (.enter k0 args) w)
    (hf : ∀ (i : Nat) (o : Oc), r[i]? = some o → ∀ w', Below w.heap.size w w' → Calls Tryd.prog k0 (#[ocV o] ++ caps) w' fun e w'' => e = .returned (.bool (f o)) ∧ Below w'.heap.size w' w'') :
    Calls Tryd.prog 107 #[.slice A r.length c, .func (.func k0) #[] caps] w fun e w' => e = .returned (.int .i64 (firstIx f r)) ∧ Below w.heap.size w w' := by
  have HF := Sec.mk hf
  have HR := Sec.mk hr
  clear hf hr
  go_enter Tryd.func107, Tryd.ntmps107
  go_wp2_with fail
  go_loopw [8] (fun i wr => IxRel w f r i wr) (fun i _ => r.length - (intOf i).toNat)
  case atStart => exact ⟨0, Nat.zero_le _, rfl, ⟨fun j y hj => by omega⟩, Below.refl _ _⟩
  case round =>
    obtain ⟨k, hk, rfl, hpre, hB⟩ := hrel
    by_cases hlt : k < r.length
    · obtain ⟨p, hp⟩ : ∃ p, r[k]? = some p := ⟨_, List.getElem?_eq_getElem hlt⟩
      obtain ⟨b, o, rfl, h0, h1, h2, h3, h4, h5⟩ := HR.out.later hB k p hp
      have HC := Sec.mk (HF.out k p hp wr hB)
      have HP := Sec.mk hp
      clear hp
      have hkk : (k : Int) < (r.length : Int) := by omega
      go_wp2_with fail
      refine HC.out.mono ?_; rintro e w1 ⟨rfl, hb1⟩
      have hB1 : Below w.heap.size w w1 := hB.trans (hb1.mono hB.size)
      clear hb1
      cases hfp : f p
      · have HFP := Sec.mk hfp
        clear hfp
        go_wp2_with fail
        refine ⟨⟨k + 1, hlt, rfl, ⟨fun j y hj hy => ?_⟩, hB1⟩, by simp only [intOf]; omega⟩
        rcases Nat.lt_or_ge j k with h | h
        · exact hpre.out j y h hy
        · obtain rfl : j = k := by omega
          rw [HP.out] at hy; cases hy; exact HFP.out
      · have HFP := Sec.mk hfp
        clear hfp
        go_wp2_with fail
        go_ret
        exact ⟨ret_i (firstIx_at f r k p HP.out HFP.out hpre.out).symm, hB1⟩
    · have hk0 : k = r.length := by omega
      have HE := Sec.mk (firstIx_none f r (hk0 ▸ hpre.out))
      clear hk0
      go_wp2_with fail
      go_ret
      exact ⟨ret_i HE.out.symm, hB⟩
set_option maxHeartbeats 400000 in
theorem contains_ocs (k0 : Nat) (caps : Array Value) (f : Oc → Bool) (A : Option Addr) (c : Nat) (r : List Oc) (w : World) (hr : Ocs w A r) (hl : r.length ≤ 140737488351232)
    (hcf : ∀ (args : Array Value) (w : World), (callFunc k0 args).run Tryd.prog w = .ok (.enter k0 args) w)
    (hf : ∀ (i : Nat) (o : Oc), r[i]? = some o → ∀ w', Below w.heap.size w w' → Calls Tryd.prog k0 (#[ocV o] ++ caps) w' fun e w'' => e = .returned (.bool (f o)) ∧ Below w'.heap.size w' w'') :
    Calls Tryd.prog 96 #[.slice A r.length c, .func (.func k0) #[] caps] w fun e w' => e = .returned (.bool (r.any f)) ∧ Below w.heap.size w w' := by
  have HI := Sec.mk (index_ocs k0 caps f A c r w hr hl hcf hf)
  have HG := Sec.mk (firstIx_geq f r)
  clear hf hr hcf
  generalize firstIx f r = ix at *
  go_enter Tryd.func96, Tryd.ntmps96
  go_wp2_with fail
  refine HI.out.mono ?_; rintro e w1 ⟨rfl, hb1⟩
  go_wp2_with fail
  go_ret
  exact ⟨ret_b HG.out, hb1⟩
theorem cfSome : ∀ (args : Array Value) (w : World), (callFunc 97 args).run Tryd.prog w = .ok (.enter 97 args) w := fun _ _ => by kernel_rfl
def someB (wts : Bool) (l : List Oc) : Bool := !l.any (badO wts)
set_option maxHeartbeats 400000 in
theorem some_any (A : Option Addr) (c : Nat) (l : List Oc) (wts : Bool) (w : World) (hA : Ocs w A l) (hl : l.length ≤ 1000) (ho : ∀ o ∈ l, o.ok) : Calls Tryd.prog 71 #[.slice A l.length c, .bool wts] w fun e w' => e = .returned (.bool (someB wts l)) ∧ Below w.heap.size w w' := by
  have hS : Sec (someB wts l = !l.any (badO wts)) := ⟨rfl⟩
  have HC := Sec.mk fun W g (hW : Below w.heap.size w W) (hc : W.cell? ⟨g, 0, none⟩ = some (.bool wts)) => contains_ocs 97 #[.pointer (some ⟨g, 0, none⟩)] (badO wts) A c l W (hA.later hW) (by omega) cfSome (fun i o hi w' hw' => some1_any o wts g w' (ho o (List.mem_of_getElem? hi)) (sc_later hw' hc))
  clear hA ho
  generalize someB wts l = R at *
  generalize l.any (badO wts) = S at *
  go_enter Tryd.func71, Tryd.ntmps71
  go_wp2_with fail
  obtain ⟨W, g, e1, e2, c0, hBW⟩ : ∃ W g, W = w.alloc (.cells #[.bool wts] 4) ∧ g = w.heap.size ∧ W.cell? ⟨g, 0, none⟩ = some (.bool wts) ∧ Below w.heap.size w W := ⟨_, _, rfl, rfl, by go_simp, sst1 _ _⟩
  rw [← e1, ← e2]
  clear e1 e2
  refine (HC.out W g hBW c0).mono ?_
  rintro e w1 ⟨rfl, hb1⟩
  clear HC
  go_wp2_with fail
  go_ret
  exact ⟨scret_b (by rw [hS.out]), sbtr hBW hb1⟩
/-- An outcome of zeros. -/
def isZ (o : Oc) : Bool := (o.l == 0) && (o.d == 0) && (o.r == 0) && (o.s == 0) && (o.n == 0) && (o.wt == 0)
def noneB (l : List Oc) : Bool := l.all isZ
def NoneRel (w : World) (l : List Oc) (i : Value) (wr : World) : Prop := ∃ k : Nat, k ≤ l.length ∧ i = .int .i64 k ∧ Sec (∀ j y, j < k → l[j]? = some y → isZ y = true) ∧ Below w.heap.size w wr
theorem noneB_end {l : List Oc} (h : ∀ j y, j < l.length → l[j]? = some y → isZ y = true) : noneB l = true := List.all_eq_true.2 fun x hx => by
  obtain ⟨j, hj⟩ := List.getElem?_of_mem hx
  exact h j x (List.getElem?_eq_some_iff.1 hj).1 hj
theorem noneB_bad {l : List Oc} {k : Nat} {o : Oc} (h : l[k]? = some o) (hz : isZ o = false) : noneB l = false := by
  cases e : noneB l
  · rfl
  · have := List.all_eq_true.1 e o (List.mem_of_getElem? h)
    rw [hz] at this; cases this
set_option maxHeartbeats 1000000 in
theorem none_any (A : Option Addr) (c : Nat) (l : List Oc) (w : World) (hA : Ocs w A l) (hl : l.length ≤ 1000) : Calls Tryd.prog 69 #[.slice A l.length c] w fun e w' => e = .returned (.bool (noneB l)) ∧ Below w.heap.size w w' := by
  have HR := Sec.mk hA
  clear hA
  go_enter Tryd.func69, Tryd.ntmps69
  go_wp2_with fail
  go_loopw [7] (fun i wr => NoneRel w l i wr) (fun i _ => l.length - (intOf i).toNat)
  case atStart => exact ⟨0, Nat.zero_le _, rfl, ⟨fun j y hj => by omega⟩, Below.refl _ _⟩
  case round =>
    obtain ⟨k, hk, rfl, hpre, hB⟩ := hrel
    by_cases hlt : k < l.length
    · obtain ⟨o, hp⟩ : ∃ p, l[k]? = some p := ⟨_, List.getElem?_eq_getElem hlt⟩
      obtain ⟨b, f, rfl, h0, h1, h2, h3, h4, h5⟩ := HR.out.later hB k o hp
      have HP := Sec.mk hp
      clear hp
      have hkk : (k : Int) < (l.length : Int) := by omega
      obtain ⟨x0, x1, x2, x3, x4, x5⟩ := o
      dsimp only at h0 h1 h2 h3 h4 h5
      go_wp2_with fail
      all_goals first
        | (go_ret
           exact ⟨scret_b (noneB_bad HP.out (by simp [isZ, *])).symm, hB.alloc hB.size _⟩)
        | (refine ⟨⟨k + 1, hlt, rfl, ⟨fun j y hj hy => ?_⟩, hB.alloc hB.size _⟩, by simp only [intOf]; omega⟩
           rcases Nat.lt_or_ge j k with h | h
           · exact hpre.out j y h hy
           · obtain rfl : j = k := by omega
             rw [HP.out] at hy; cases hy; simp [isZ, *])
    · have hk0 : k = l.length := by omega
      have HE := Sec.mk (noneB_end (hk0 ▸ hpre.out))
      clear hk0
      go_wp2_with fail
      go_ret
      exact ⟨scret_b HE.out.symm, hB⟩
/-- How many outcomes have a weight, from the first one on. -/
def wtN (l : List Oc) : Nat := l.findIdx (fun o => o.wt == 0)
def WtRel (w : World) (g : Nat) (e : En) (n : Value) (wr : World) : Prop := ∃ k : Nat, k ≤ 4 ∧ n = .int .i64 k ∧ Sec (∀ j y, j < k → e.outs[j]? = some y → (y.wt == 0) = false) ∧ RowAt wr g (enV e) ∧ Below w.heap.size w wr
theorem outs_len (e : En) : e.outs.length = 4 := rfl
theorem wtN_at {l : List Oc} {k : Nat} {o : Oc} (h : l[k]? = some o) (hz : (o.wt == 0) = true) (hb : ∀ j y, j < k → l[j]? = some y → (y.wt == 0) = false) : wtN l = k := by
  obtain ⟨hk, rfl⟩ := List.getElem?_eq_some_iff.1 h
  unfold wtN
  refine (List.findIdx_eq hk).2 ⟨hz, fun j hj => ?_⟩
  exact hb j _ hj (List.getElem?_eq_getElem (by omega))
theorem wtN_end {l : List Oc} (hb : ∀ j y, j < l.length → l[j]? = some y → (y.wt == 0) = false) : wtN l = l.length := by
  unfold wtN
  refine List.findIdx_eq_length.2 fun x hx => ?_
  obtain ⟨j, hj⟩ := List.getElem?_of_mem hx
  exact hb j x (List.getElem?_eq_some_iff.1 hj).1 hj
theorem wtN_le (e : En) : wtN e.outs ≤ 4 := by have := List.findIdx_le_length (p := fun o : Oc => o.wt == 0) (xs := e.outs); rw [outs_len] at this; exact this
set_option maxHeartbeats 1000000 in
theorem weighted_any (e : En) (w : World) : Calls Tryd.prog 32 #[.agg (enV e)] w fun e' w' => e' = .returned (.int .i64 (wtN e.outs)) ∧ Below w.heap.size w w' := by
  go_enter Tryd.func32, Tryd.ntmps32
  go_wp2_with fail
  obtain ⟨W, g, e1, e2, P, hB0⟩ := en_box w e
  rw [← e1, ← e2]
  clear e1 e2
  go_loopw [3] (fun n wr => WtRel w g e n wr) (fun n _ => 4 - (intOf n).toNat)
  case atStart => exact ⟨0, by omega, rfl, ⟨fun j y hj => by omega⟩, P, hB0⟩
  case round =>
    clear P hB0
    obtain ⟨k, hk, rfl, hpre, P, hB⟩ := hrel
    by_cases hlt : k < 4
    · obtain ⟨o, ho⟩ : ∃ o, e.outs[k]? = some o := ⟨_, List.getElem?_eq_getElem (by rw [outs_len]; exact hlt)⟩
      obtain ⟨b, f, hA, h0, h1, h2, h3, h4, h5⟩ := ocs_en P 0 k o (by simpa using ho)
      cases hA
      have k0 : (0 : Int) ≤ (k : Int) := by omega
      have k4 : (k : Int) < 4 := by omega
      have e7 : 7 + 0 * 6 + k * 6 + 5 = 7 + k * 6 + 5 := by omega
      rw [e7] at h5
      have P' := Sec.mk P
      have ho' := Sec.mk ho
      clear h0 h1 h2 h3 h4 e7 P ho
      by_cases hz : (o.wt == 0) = true
      · have hz2 : (o.wt != 0) = false := by simpa using hz
        have hE := Sec.mk (wtN_at ho'.out hz hpre.out)
        clear hz
        go_wp2_with fail
        all_goals
          go_ret
          exact ⟨scret_i (by rw [hE.out]), hB⟩
      · have hz' : (o.wt == 0) = false := by simpa using hz
        have hz2 : (o.wt != 0) = true := by simpa using hz
        have hzs := Sec.mk hz'
        clear hz hz'
        go_wp2_with fail
        refine ⟨⟨k + 1, hlt, by first | rfl | go_num, ⟨fun j y hj hy => ?_⟩, P'.out, hB⟩, by simp only [intOf]; omega⟩
        rcases Nat.lt_or_ge j k with h | h
        · exact hpre.out j y h hy
        · obtain rfl : j = k := by omega
          rw [ho'.out] at hy; cases hy; exact hzs.out
    · have hk4 : k = 4 := by omega
      subst hk4
      have hE := Sec.mk (wtN_end (l := e.outs) (by rw [outs_len]; exact hpre.out))
      have P' := Sec.mk P
      clear P
      go_wp2_with fail
      go_ret
      exact ⟨scret_i (by rw [hE.out]; rfl), hB⟩
end Go.Proofs.YtojgjpegfkfnjaaDoor
