/- adjust: what is right for each kind. -/
import Derived.Test.YtojgjpegfkfnjaaDoorAdjA
namespace Go.Proofs.YtojgjpegfkfnjaaDoor
open Go.RowKit
set_option linter.unusedVariables false
set_option linter.unusedSimpArgs false
set_option maxRecDepth 100000

theorem some_n (A : Option Addr) (n c : Nat) (l : List Oc) (wts : Bool) (w : World) (hn : l.length = n) (hA : Ocs w A l) (hl : n ≤ 1000) (ho : ∀ o ∈ l, o.ok) : Calls Tryd.prog 71 #[.slice A n c, .bool wts] w fun e w' => e = .returned (.bool (someB wts l)) ∧ Below w.heap.size w w' := by
  subst hn; exact some_any A c l wts w hA hl ho
theorem none_n (A : Option Addr) (n c : Nat) (l : List Oc) (w : World) (hn : l.length = n) (hA : Ocs w A l) (hl : n ≤ 1000) : Calls Tryd.prog 69 #[.slice A n c] w fun e w' => e = .returned (.bool (noneB l)) ∧ Below w.heap.size w w' := by
  subst hn; exact none_any A c l w hA hl
theorem outs_ok {e : En} (h : e.ok) : ∀ o ∈ e.outs, o.ok := by
  obtain ⟨_, _, _, _, _, _, h0, h1, h2, h3, _, _⟩ := h
  intro o ho
  simp [En.outs] at ho
  rcases ho with rfl | rfl | rfl | rfl <;> assumption
theorem outs_ok_take {e : En} (h : e.ok) (n : Nat) : ∀ o ∈ e.outs.take n, o.ok := fun o ho => outs_ok h o (List.mem_of_mem_take ho)
set_option maxHeartbeats 1000000 in
theorem rights1_any (e : En) (w : World) : Calls Tryd.prog 68 #[.agg (enV e)] w fun e' w' => e' = .returned (.bool (noneB e.outs)) ∧ Below w.heap.size w w' := by
  go_enter Tryd.func68, Tryd.ntmps68
  go_wp2_with fail
  obtain ⟨W, g, e1, e2, P, hB0⟩ := en_box w e
  rw [← e1, ← e2]
  clear e1 e2
  have H := none_n (some ⟨g, 7, none⟩) 4 4 e.outs W rfl (by simpa using ocs_en P 0) (by omega)
  clear P
  refine H.mono ?_
  rintro e' w1 ⟨rfl, hb1⟩
  go_wp2_with fail
  go_ret
  exact ⟨rfl, sbtr hB0 hb1⟩
set_option maxHeartbeats 1000000 in
theorem rights5_any (e : En) (w : World) : Calls Tryd.prog 74 #[.agg (enV e)] w fun e' w' => e' = .returned (.bool (noneB e.outs)) ∧ Below w.heap.size w w' := by
  go_enter Tryd.func74, Tryd.ntmps74
  go_wp2_with fail
  obtain ⟨W, g, e1, e2, P, hB0⟩ := en_box w e
  rw [← e1, ← e2]
  clear e1 e2
  have H := none_n (some ⟨g, 7, none⟩) 4 4 e.outs W rfl (by simpa using ocs_en P 0) (by omega)
  clear P
  refine H.mono ?_
  rintro e' w1 ⟨rfl, hb1⟩
  go_wp2_with fail
  go_ret
  exact ⟨rfl, sbtr hB0 hb1⟩
set_option maxHeartbeats 1000000 in
theorem rights2_any (e : En) (w : World) (he : e.ok) : Calls Tryd.prog 70 #[.agg (enV e)] w fun e' w' => e' = .returned (.bool (someB false (e.outs.take 1) && noneB (e.outs.drop 1))) ∧ Below w.heap.size w w' := by
  have H1 := Sec.mk fun W g (P : RowAt W g (enV e)) => some_n (some ⟨g, 7, none⟩) 1 4 (e.outs.take 1) false W rfl (by simpa using (ocs_en P 0).take 1) (by omega) (outs_ok_take he 1)
  have H2 := Sec.mk fun W g (P : RowAt W g (enV e)) => none_n (some ⟨g, 13, none⟩) 3 3 (e.outs.drop 1) W rfl (ocs_en P 1) (by omega)
  clear he
  generalize someB false (e.outs.take 1) = R at *
  generalize noneB (e.outs.drop 1) = S at *
  go_enter Tryd.func70, Tryd.ntmps70
  go_wp2_with fail
  obtain ⟨W, g, e1, e2, P, hB0⟩ := en_box w e
  rw [← e1, ← e2]
  clear e1 e2
  have P' := Sec.mk P
  clear P
  refine (H1.out _ _ P'.out).mono ?_
  rintro e' w1 ⟨rfl, hb1⟩
  clear H1
  cases R
  · go_wp2_with fail
    go_ret
    exact ⟨rfl, sbtr hB0 hb1⟩
  · go_wp2_with fail
    refine (H2.out _ _ (P'.out.later hb1)).mono ?_
    rintro e' w2 ⟨rfl, hb2⟩
    go_wp2_with fail
    go_ret
    exact ⟨rfl, sbtr hB0 (sbtr hb1 hb2)⟩
set_option maxHeartbeats 1000000 in
theorem rights4_any (e : En) (w : World) (he : e.ok) : Calls Tryd.prog 73 #[.agg (enV e)] w fun e' w' => e' = .returned (.bool (someB false (e.outs.take 2) && noneB (e.outs.drop 2))) ∧ Below w.heap.size w w' := by
  have H1 := Sec.mk fun W g (P : RowAt W g (enV e)) => some_n (some ⟨g, 7, none⟩) 2 4 (e.outs.take 2) false W rfl (by simpa using (ocs_en P 0).take 2) (by omega) (outs_ok_take he 2)
  have H2 := Sec.mk fun W g (P : RowAt W g (enV e)) => none_n (some ⟨g, 19, none⟩) 2 2 (e.outs.drop 2) W rfl (ocs_en P 2) (by omega)
  clear he
  generalize someB false (e.outs.take 2) = R at *
  generalize noneB (e.outs.drop 2) = S at *
  go_enter Tryd.func73, Tryd.ntmps73
  go_wp2_with fail
  obtain ⟨W, g, e1, e2, P, hB0⟩ := en_box w e
  rw [← e1, ← e2]
  clear e1 e2
  have P' := Sec.mk P
  clear P
  refine (H1.out _ _ P'.out).mono ?_
  rintro e' w1 ⟨rfl, hb1⟩
  clear H1
  cases R
  · go_wp2_with fail
    go_ret
    exact ⟨rfl, sbtr hB0 hb1⟩
  · go_wp2_with fail
    refine (H2.out _ _ (P'.out.later hb1)).mono ?_
    rintro e' w2 ⟨rfl, hb2⟩
    go_wp2_with fail
    go_ret
    exact ⟨rfl, sbtr hB0 (sbtr hb1 hb2)⟩
/-- The weights of outcomes, together. -/
def wtSum (l : List Oc) : Int := (l.map (·.wt)).sum
/-- What is right for a weighted entry. -/
def wtdB (e : En) : Bool := !((e.outs.take (wtN e.outs)).any fun o => decide (100 < o.wt)) && decide (2 ≤ wtN e.outs) && decide (wtSum (e.outs.take (wtN e.outs)) = 100) && someB true (e.outs.take (wtN e.outs)) && noneB (e.outs.drop (wtN e.outs))
theorem wrap_add (a b : Int) : wrap64 (wrap64 a + b) = wrap64 (a + b) := by unfold wrap64; omega
theorem wrap_in {a : Int} (h : -1000000 ≤ a ∧ a ≤ 1000000) : wrap64 a = a := by unfold wrap64; omega
theorem any_end {α : Type} {p : α → Bool} {l : List α} (h : ∀ j y, j < l.length → l[j]? = some y → p y = false) : l.any p = false := List.any_eq_false.2 fun x hx => by
  obtain ⟨j, hj⟩ := List.getElem?_of_mem hx
  have := h j x (List.getElem?_eq_some_iff.1 hj).1 hj
  simp [this]
theorem any_at {α : Type} {p : α → Bool} {l : List α} {k : Nat} {x : α} (h : l[k]? = some x) (hx : p x = true) : l.any p = true := List.any_eq_true.2 ⟨x, List.mem_of_getElem? h, hx⟩
theorem wtSum_small {l : List Oc} (hl : l.length ≤ 4) (h1 : someB true l = true) (h2 : (l.any fun o => decide (100 < o.wt)) = false) : 0 ≤ wtSum l ∧ wtSum l ≤ 400 := by
  have hb : ∀ o ∈ l, 0 ≤ o.wt ∧ o.wt ≤ 100 := fun o ho => by
    have h3 := List.any_eq_false.1 h2 o ho
    unfold someB at h1
    have h4 := List.any_eq_false.1 (by simpa using h1) o ho
    simp [badO] at h3 h4
    omega
  have : ∀ l : List Oc, (∀ o ∈ l, 0 ≤ o.wt ∧ o.wt ≤ 100) → 0 ≤ wtSum l ∧ wtSum l ≤ 100 * l.length := by
    intro l
    induction l with
    | nil => intro _; simp [wtSum]
    | cons x l ih =>
      intro h
      have := ih (fun o ho => h o (List.mem_cons_of_mem _ ho))
      have := h x (List.mem_cons_self ..)
      simp only [wtSum, List.map_cons, List.sum_cons, List.length_cons] at *
      omega
  have := this l hb
  omega
def R3Rel (w : World) (g : Nat) (e : En) (N : Nat) (s i : Value) (wr : World) : Prop :=
  ∃ k : Nat, k ≤ N ∧ i = .int .i64 k ∧ s = .int .i64 (wrap64 (sumTo (·.wt) (e.outs.take N) k)) ∧ Sec (∀ j y, j < k → (e.outs.take N)[j]? = some y → decide (100 < y.wt) = false) ∧ RowAt wr g (enV e) ∧ Below w.heap.size w wr
set_option maxHeartbeats 2000000 in
theorem rights3_any (e : En) (w : World) (he : e.ok) : Calls Tryd.prog 72 #[.agg (enV e)] w fun e' w' => e' = .returned (.bool (wtdB e)) ∧ Below w.heap.size w w' := by
  have HW := Sec.mk fun w' => weighted_any e w'
  have hN4 := wtN_le e
  have hS : Sec (wtdB e = (!((e.outs.take (wtN e.outs)).any fun o => decide (100 < o.wt)) && decide (2 ≤ wtN e.outs) && decide (wtSum (e.outs.take (wtN e.outs)) = 100) && someB true (e.outs.take (wtN e.outs)) && noneB (e.outs.drop (wtN e.outs)))) := ⟨rfl⟩
  generalize wtdB e = R at *
  generalize wtN e.outs = N at *
  have hlen : (e.outs.take N).length = N := by rw [List.length_take, outs_len]; omega
  have HSm := Sec.mk fun W g (P : RowAt W g (enV e)) => some_n (some ⟨g, 7, none⟩) N 4 (e.outs.take N) true W hlen (by simpa using (ocs_en P 0).take N) (by omega) (outs_ok_take he N)
  have HNo := Sec.mk fun W g (P : RowAt W g (enV e)) => none_n (some ⟨g, 7 + N * 6, none⟩) (4 - N) (4 - N) (e.outs.drop N) W (by rw [List.length_drop, outs_len]) (ocs_en P N) (by omega)
  have hra := en_hra w e
  have hsz := en_sz e
  have hlen' := Sec.mk hlen
  clear he hlen
  go_enter Tryd.func72, Tryd.ntmps72
  go_wp2_with (refine wpList_load_mid (by rfl) 29 (.tmp 1) (by rfl) w.heap.size 0 (by rfl) (enV e).toList _ hra Tryd.underlying29 rfl hsz ?_; simp only [Array.toArray_toList])
  obtain ⟨W, g, e1, e2, P, hB0⟩ := en_box w e
  rw [← e1, ← e2]
  clear e1 e2 hra
  refine (HW.out _).mono ?_
  rintro e' w1 ⟨rfl, hb1⟩
  have P1 := P.later hb1
  have hB1 := sbtr hB0 hb1
  clear P hB0 hb1 HW
  have n0 : (0 : Int) ≤ (N : Int) := by omega
  have n4 : (N : Int) ≤ 4 := by omega
  go_wp2_with fail
  go_loopw [4, 13] (fun s i wr => R3Rel w g e N s i wr) (fun _ i _ => N - (intOf i).toNat)
  case atStart => exact ⟨0, by omega, rfl, by simp [sumTo_zero, wrap64], ⟨fun j y hj => by omega⟩, P1, hB1⟩
  case round =>
    clear P1 hB1
    obtain ⟨k, hk, rfl, rfl, hpre, P, hB⟩ := hrel
    by_cases hlt : k < N
    · obtain ⟨o, ho⟩ : ∃ o, (e.outs.take N)[k]? = some o := ⟨_, List.getElem?_eq_getElem (by rw [hlen'.out]; exact hlt)⟩
      obtain ⟨b, f, hA, h0, h1, h2, h3, h4, h5⟩ := (ocs_en P 0).take N k o (by simpa using ho)
      cases hA
      have hsum := sumTo_succ (·.wt) (e.outs.take N) k o ho
      have k0 : (0 : Int) ≤ (k : Int) := by omega
      have kN : (k : Int) < (N : Int) := by omega
      simp only [Nat.zero_mul, Nat.add_zero] at h0 h1 h2 h3 h4 h5
      have P' := Sec.mk P
      have ho' := Sec.mk ho
      replace hsum := Sec.mk hsum
      clear P ho
      generalize sumTo (·.wt) (e.outs.take N) k = S at *
      obtain ⟨x0, x1, x2, x3, x4, x5⟩ := o
      dsimp only at h0 h1 h2 h3 h4 h5 hsum
      by_cases hbig : 100 < x5
      · go_wp2_with fail
        go_ret
        exact ⟨scret_b (by rw [hS.out, any_at ho'.out (by simpa using hbig)]; simp), hB.alloc hB.size _⟩
      · go_wp2_with fail
        refine ⟨⟨k + 1, hlt, by first | rfl | go_num, ?_, ⟨fun j y hj hy => ?_⟩, P'.out.later (sst1 _ _), hB.alloc hB.size _⟩, by simp only [intOf]; omega⟩
        · rw [hsum.out, wrap_add]
        · rcases Nat.lt_or_ge j k with h | h
          · exact hpre.out j y h hy
          · obtain rfl : j = k := by omega
            rw [ho'.out] at hy; cases hy; simpa using hbig
    · have hkN : k = N := by omega
      subst hkN
      have hall := any_end (p := fun o : Oc => decide (100 < o.wt)) (l := e.outs.take k) (by rw [hlen'.out]; exact hpre.out)
      have hsm := wtSum_small (l := e.outs.take k) (by rw [hlen'.out]; exact hN4)
      have hsa : sumTo (·.wt) (e.outs.take k) k = wtSum (e.outs.take k) := by
        have := sumTo_all (·.wt) (e.outs.take k)
        rw [hlen'.out] at this
        exact this
      rw [hsa]
      have hP := Sec.mk P
      obtain ⟨X, hX⟩ : ∃ X, wrap64 (wtSum (e.outs.take k)) = X := ⟨_, rfl⟩
      rw [hX]
      have hRn : X ≠ 100 → R = false := fun hx => by
        rw [hS.out]
        cases h1 : someB true (e.outs.take k)
        · simp
        · have := hsm h1 hall
          rw [wrap_in (by omega)] at hX
          rw [hX]
          simp [hx]
      have hRs : someB true (e.outs.take k) = false → R = false := fun h1 => by rw [hS.out, h1]; simp
      have hRy : X = 100 → someB true (e.outs.take k) = true → 2 ≤ k → R = noneB (e.outs.drop k) := fun hx h1 h2 => by
        have := hsm h1 hall
        rw [wrap_in (by omega)] at hX
        rw [hS.out, hall, h1, hX, hx]
        simp [h2]
      have hR1 : ¬ 2 ≤ k → R = false := fun h2 => by rw [hS.out]; simp [h2]
      have H1 := Sec.mk hRn
      have H2 := Sec.mk hRs
      have H3 := Sec.mk hRy
      have H4 := Sec.mk hR1
      have hB' := Sec.mk hB
      clear hRn hRs hRy hR1 hS hX hsm hall hsa P hlen' hpre hB
      have hk5 : k = 0 ∨ k = 1 ∨ k = 2 ∨ k = 3 ∨ k = 4 := by omega
      clear hk hN4 n0 n4 hlt
      rcases hk5 with rfl | rfl | rfl | rfl | rfl
      · go_wp2_with fail
        go_ret
        exact ⟨scret_b (by rw [H4.out (by omega)]), hB'.out⟩
      · go_wp2_with fail
        go_ret
        exact ⟨scret_b (by rw [H4.out (by omega)]), hB'.out⟩
      · have HSm' := Sec.mk (HSm.out _ _ hP.out)
        clear HSm
        by_cases hx : (X == 100) = true
        · have hx100 : X = 100 := by simpa using hx
          subst hx100
          clear hx
          cases hsb : someB true (List.take 2 e.outs)
          · have hend := Sec.mk (H2.out hsb)
            rw [hsb] at HSm'
            clear H2 H1 H3 H4 hsb
            go_wp2_with fail
            with_reducible refine HSm'.out.mono ?_
            rintro e' w3 ⟨rfl, hb3⟩
            go_wp2_with fail
            go_ret
            exact ⟨scret_b (by rw [hend.out]), sbtr hB'.out hb3⟩
          · have hend := Sec.mk (H3.out rfl hsb (by omega))
            rw [hsb] at HSm'
            clear H2 H1 H3 H4 hsb
            go_wp2_with fail
            with_reducible refine HSm'.out.mono ?_
            rintro e' w3 ⟨rfl, hb3⟩
            have hP3 := hP.out.later hb3
            go_wp2_with fail
            with_reducible refine (none_n (some ⟨g, 19, none⟩) 2 2 (e.outs.drop 2) _ rfl (ocs_en hP3 2) (by omega)).mono ?_
            rintro e' w4 ⟨rfl, hb4⟩
            go_wp2_with fail
            go_ret
            exact ⟨scret_b (by rw [hend.out]), sbtr hB'.out (sbtr hb3 hb4)⟩
        · have hx' : (X == 100) = false := by simpa using hx
          have hend := Sec.mk (H1.out (by simpa using hx))
          clear hx H1 H2 H3 H4
          go_wp2_with fail
          go_ret
          exact ⟨scret_b (by rw [hend.out]), hB'.out⟩
      · have HSm' := Sec.mk (HSm.out _ _ hP.out)
        clear HSm
        by_cases hx : (X == 100) = true
        · have hx100 : X = 100 := by simpa using hx
          subst hx100
          clear hx
          cases hsb : someB true (List.take 3 e.outs)
          · have hend := Sec.mk (H2.out hsb)
            rw [hsb] at HSm'
            clear H2 H1 H3 H4 hsb
            go_wp2_with fail
            with_reducible refine HSm'.out.mono ?_
            rintro e' w3 ⟨rfl, hb3⟩
            go_wp2_with fail
            go_ret
            exact ⟨scret_b (by rw [hend.out]), sbtr hB'.out hb3⟩
          · have hend := Sec.mk (H3.out rfl hsb (by omega))
            rw [hsb] at HSm'
            clear H2 H1 H3 H4 hsb
            go_wp2_with fail
            with_reducible refine HSm'.out.mono ?_
            rintro e' w3 ⟨rfl, hb3⟩
            have hP3 := hP.out.later hb3
            go_wp2_with fail
            with_reducible refine (none_n (some ⟨g, 25, none⟩) 1 1 (e.outs.drop 3) _ rfl (ocs_en hP3 3) (by omega)).mono ?_
            rintro e' w4 ⟨rfl, hb4⟩
            go_wp2_with fail
            go_ret
            exact ⟨scret_b (by rw [hend.out]), sbtr hB'.out (sbtr hb3 hb4)⟩
        · have hx' : (X == 100) = false := by simpa using hx
          have hend := Sec.mk (H1.out (by simpa using hx))
          clear hx H1 H2 H3 H4
          go_wp2_with fail
          go_ret
          exact ⟨scret_b (by rw [hend.out]), hB'.out⟩
      · have HSm' := Sec.mk (HSm.out _ _ hP.out)
        clear HSm
        by_cases hx : (X == 100) = true
        · have hx100 : X = 100 := by simpa using hx
          subst hx100
          clear hx
          cases hsb : someB true (List.take 4 e.outs)
          · have hend := Sec.mk (H2.out hsb)
            rw [hsb] at HSm'
            clear H2 H1 H3 H4 hsb
            go_wp2_with fail
            with_reducible refine HSm'.out.mono ?_
            rintro e' w3 ⟨rfl, hb3⟩
            go_wp2_with fail
            go_ret
            exact ⟨scret_b (by rw [hend.out]), sbtr hB'.out hb3⟩
          · have hend := Sec.mk (H3.out rfl hsb (by omega))
            rw [hsb] at HSm'
            clear H2 H1 H3 H4 hsb
            go_wp2_with fail
            with_reducible refine HSm'.out.mono ?_
            rintro e' w3 ⟨rfl, hb3⟩
            have hP3 := hP.out.later hb3
            go_wp2_with fail
            with_reducible refine (none_n (some ⟨g, 7, none⟩) 0 0 (e.outs.drop 4) _ rfl (ocs_nil _ _) (by omega)).mono ?_
            rintro e' w4 ⟨rfl, hb4⟩
            go_wp2_with fail
            go_ret
            exact ⟨scret_b (by rw [hend.out]), sbtr hB'.out (sbtr hb3 hb4)⟩
        · have hx' : (X == 100) = false := by simpa using hx
          have hend := Sec.mk (H1.out (by simpa using hx))
          clear hx H1 H2 H3 H4
          go_wp2_with fail
          go_ret
          exact ⟨scret_b (by rw [hend.out]), hB'.out⟩
end Go.Proofs.YtojgjpegfkfnjaaDoor
