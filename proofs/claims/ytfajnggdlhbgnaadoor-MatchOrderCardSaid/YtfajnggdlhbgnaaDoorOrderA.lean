/- MatchOrder: the walk. -/
import Derived.Test.YtfajnggdlhbgnaaDoorPairsA
import Derived.Test.YtfajnggdlhbgnaaDoorAppK
namespace Go.Proofs.YtfajnggdlhbgnaaDoor
open Go.RowKit
set_option linter.unusedVariables false
set_option linter.unusedSimpArgs false

theorem step_append_own {P : Program} (w : World) {ops : Array Oper} {o : Oper} {a : Act} {K : Act → World → Prop} {Q : Exit → Act → World → Prop} {E : Prop} (hgd : o.guard = none) (s x : Operand) (t : TypeId)
    (ho : o.op = .call { callee := .builtin .append, args := #[s, x], argTypes := #[t, t] })
    (base : Nat) (e : TypeId) (i : TypeInfo) (z : Value) (size bytes : Nat) (ht : P.underlying t = some (.slice e)) (hi : P.info? e = some i) (hz : i.zero = some z)
    (hsize : i.size = size) (hby : i.bytes = bytes) (hzs : z.cells.size = size) (hsz : 0 < size)
    (v : Value) (n : Nat) (xs : List Value) (hs : a.eval s = v) (hown : w.ownsRow base e size v n xs)
    (ad : Addr) (m c : Nat) (news : List Value) (hx : a.eval x = .slice (some ad) m c) (hl : news.length = m * size) (hnews : ∀ j u, news[j]? = some u → w.cell? (ad.add j) = some u) (h1 : ∀ u ∈ news, u.oneCell' = true)
    (h63 : n + m ≤ maxLen) (hbytes : (n + m) * bytes ≤ 140737488355328) (hbase : base ≤ w.heap.size)
    (h : ∀ v' w', w'.ownsRow base e size v' (n + m) (xs ++ news) → w.grownBy w' v.ownBlock → K (a.put o.dst v') w') :
    if Region.wanted o (yielded ops a.tmps) = true then Oper.wp P o a w K Q else E := by
  have hw : Region.wanted o (yielded ops a.tmps) = true := by simp [Region.wanted, hgd]
  rw [if_pos hw]
  exact wp_append_own w s x t ho base e i z size bytes ht hi hz hsize hby hzs hsz v n xs hs hown ad m c news hx hl hnews h1 h63 hbytes hbase fun v' w' h2 h3 _ => h v' w' h2 h3

theorem add_none0 (b o i : Nat) : (⟨b, o, none⟩ : Addr).add i = ⟨b, o + i, none⟩ := by
  unfold Addr.add
  split
  · rename_i h; subst h; rfl
  · rfl
theorem take_get {α : Type} {l : List α} {K j : Nat} {u : α} (h : (l.take K)[j]? = some u) : l[j]? = some u := by
  rcases Nat.lt_or_ge j K with hl | hl
  · rwa [List.getElem?_take_of_lt hl] at h
  · rw [List.getElem?_eq_none (by simp; omega)] at h; cases h
theorem ordQ_bd' (p q : Rat) : -1 ≤ ordQ p q ∧ ordQ p q ≤ 1 := by unfold ordQ; split <;> (try split) <;> omega
theorem turn_at {α : Type} (l : List α) (k i : Nat) (hk : k < l.length) (hi : i < l.length) : (l.drop k ++ l.take k)[(i + l.length - k) % l.length]? = l[i]? := by
  by_cases h : k ≤ i
  · have e : (i + l.length - k) % l.length = i - k := by
      rw [show i + l.length - k = (i - k) + l.length by omega, Nat.add_mod_right, Nat.mod_eq_of_lt (by omega)]
    rw [e, List.getElem?_append_left (by simp; omega), List.getElem?_drop, show k + (i - k) = i by omega]
  · have e : (i + l.length - k) % l.length = i + l.length - k := Nat.mod_eq_of_lt (by omega)
    rw [e, List.getElem?_append_right (by simp; omega), List.length_drop, show i + l.length - k - (l.length - k) = i by omega, List.getElem?_take_of_lt (by omega)]
theorem turn_perm {α : Type} (l : List α) (k : Nat) : (l.drop k ++ l.take k).Perm l := by
  have := List.perm_append_comm (l₁ := l.drop k) (l₂ := l.take k)
  rwa [List.take_append_drop] at this
theorem matchQ_perm {l m : List (List (Int × Int))} (h : l.Perm m) (a : List (Int × Int)) : matchQ l a = matchQ m a := by
  unfold matchQ; rw [matchN_perm h]
theorem single_right {a : List (Int × Int)} (h : rightR a = true) (h1 : a.length = 1) : ∃ p : Int, a = [(p, 100)] := by
  match a, h1 with
  | [(p, q)], _ =>
    have := (rightR_parts h).2.1
    simp at this
    exact ⟨p, by rw [this]⟩
theorem order_keep {l : List (List (Int × Int))} {p q : Int} (h : q ≤ p) (hl : ∀ r ∈ l, rightR r = true) : 0 ≤ ordQ (matchQ l [(p, 100)]) (matchQ l [(q, 100)]) := by
  have := matchN_mono h hl
  unfold matchQ
  rw [ordQ_div]
  unfold ord3
  split <;> (try split) <;> omega

theorem turned_own {w2 w4 : World} {R : List (List (Int × Int))} {vs : List Value} {v : Value} {K : Nat} (hK : K < R.length) (hv : vs.length = R.length)
    (h2 : ∀ (i : Nat) (r : List (Int × Int)), R[i]? = some r → ∃ Ai ci, vs[i]? = some (.slice Ai r.length ci) ∧ PartsB w2 Ai r) (hb : Below w2.heap.size w2 w4)
    (hown0 : w4.ownsRow w2.heap.size 24 1 v (0 + (R.length - K) + K) ((#[] : Array Value).toList ++ vs.drop K ++ vs.take K)) : OwnRess w4 w2.heap.size v (R.drop K ++ R.take K) := by
  have hown : w4.ownsRow w2.heap.size 24 1 v R.length (vs.drop K ++ vs.take K) := by
    rw [show 0 + (R.length - K) + K = R.length by omega] at hown0
    exact hown0
  refine ⟨vs.drop K ++ vs.take K, ?_, fun i r hi => ?_⟩
  · have : (R.drop K ++ R.take K).length = R.length := by simp; omega
    rw [this]; exact hown
  · by_cases h : i < R.length - K
    · rw [List.getElem?_append_left (by simp; omega), List.getElem?_drop] at hi
      obtain ⟨Ai, ci, e1, e2⟩ := h2 _ r hi
      exact ⟨Ai, ci, by rw [List.getElem?_append_left (by simp; omega), List.getElem?_drop]; exact e1, e2.later hb⟩
    · rw [List.getElem?_append_right (by simp; omega), List.length_drop] at hi
      have hk : i - (R.length - K) < K := by
        rcases Nat.lt_or_ge (i - (R.length - K)) K with h | h
        · exact h
        · rw [List.getElem?_eq_none (by simp; omega)] at hi; cases hi
      rw [List.getElem?_take_of_lt hk] at hi
      obtain ⟨Ai, ci, e1, e2⟩ := h2 _ r hi
      exact ⟨Ai, ci, by rw [List.getElem?_append_right (by simp; omega), List.length_drop, hv, List.getElem?_take_of_lt hk]; exact e1, e2.later hb⟩

set_option maxRecDepth 100000 in
set_option maxHeartbeats 4000000 in
theorem MatchOrder_any (A : Option Addr) (c : Nat) (l : List Sm) (by_ : Int) (w : World) (hA : Smalls w A l) (hl : l.length ≤ c ∧ c ≤ 9223372036854775807) (hby : 0 ≤ by_ ∧ by_ ≤ 255) (hG : Gets w) :
    Calls Tryd.prog 7 #[.slice A l.length c, .int .u8 by_] w fun e w' => e = .returned (.bool true) ∧ Below w.heap.size w w' := by
  have HAll := Sec.mk (All_any A c l 24 w hA hl (by omega))
  have HR := Sec.mk (smalls_right hA 24)
  have hn : ((l.take 24).map Sm.r).length ≤ 24 := by simp; omega
  have HG := Sec.mk hG
  obtain ⟨i0, hi, hz0, hz1, hz2⟩ := info_parts infoRes
  have HI := Sec.mk hi
  have Z0 := Sec.mk hz0
  have Z1 := Sec.mk hz1
  have Z2 := Sec.mk hz2
  clear hA hl hG hi hz0 hz1 hz2
  generalize (l.take 24).map Sm.r = R at *
  by_cases hR0 : R.length = 0
  · have hE : ((R.length : Int) == 0) = true := by simp [hR0]
    go_enter Tryd.func7, Tryd.ntmps7
    go_wp2_with fail
    refine HAll.out.mono ?_
    rintro e w1 ⟨v1, rfl, hO, hb1⟩
    obtain ⟨A1, c1, rfl, hR1⟩ := hO.ress
    clear hO hR1 HAll hR0
    go_wp2_with fail
    refine (awake_true _ (HG.out.later hb1)).mono ?_
    rintro e w2 ⟨rfl, hb2⟩
    go_wp2_with fail
    go_ret
    exact ⟨rfl, btr hb1 hb2⟩
  have hE : ((R.length : Int) == 0) = false := beq_eq_false_iff_ne.2 (by omega)
  have hE2 : ¬ ((R.length : Int) = 0) := by omega
  obtain ⟨K, hK⟩ : ∃ K : Nat, K = (by_ % (R.length : Int)).toNat := ⟨_, rfl⟩
  have eK : by_ % (R.length : Int) = (K : Int) := by
    have := Int.emod_nonneg by_ (show (R.length : Int) ≠ 0 by omega)
    omega
  have hKn : K < R.length := by
    have := Int.emod_lt_of_pos by_ (show (0 : Int) < R.length by omega)
    omega
  clear hK
  go_enter Tryd.func7, Tryd.ntmps7
  go_wp2_with fail
  refine HAll.out.mono ?_
  rintro e w1 ⟨v1, rfl, hO, hb1⟩
  obtain ⟨A1, c1, hv1, hR1⟩ := hO.ress
  subst hv1
  obtain ⟨vs, hvs, hvs2⟩ := hO
  obtain ⟨g1, c1', e1, hg1, hg1l⟩ := hvs.form (by omega)
  simp only [Value.slice.injEq, true_and] at e1
  obtain ⟨rfl, rfl⟩ := e1
  have hcap : R.length ≤ c1 := by
    rcases hvs.2 with ⟨h, _⟩ | ⟨_, _, _, h, _, _, h2, _⟩
    · cases h
    · simp only [Value.slice.injEq, true_and] at h
      rw [h.2]; exact h2
  have hcm : c1 ≤ 9223372036854775807 := by
    rcases hvs.2 with ⟨h, _⟩ | ⟨_, _, _, h, _, _, _, h2, _⟩
    · cases h
    · simp only [Value.slice.injEq, true_and] at h
      rw [h.2]; unfold maxLen at h2; omega
  have HP := Sec.mk (Points_right _ c1 R w1 hR1 (HG.out.later hb1) (all_right HR.out) hn)
  have HR1 := Sec.mk hR1
  have HB1 := Sec.mk hb1
  have HV := Sec.mk hvs
  have HV2 := Sec.mk hvs2
  clear hR1 hb1 HAll hvs hvs2
  go_wp2_with fail
  refine HP.out.mono ?_
  rintro e w2 ⟨v2, rfl, hO2, hb2⟩
  obtain ⟨A2, c2, rfl, hP2, -⟩ := parts_of_own hO2
  rw [List.length_map]
  have HP2 := Sec.mk hP2
  have HR2 := Sec.mk (HR1.out.later hb2)
  have HB2 := Sec.mk (btr HB1.out hb2)
  have HW := Sec.mk (own_below HV.out hb2)
  have HW2 : Sec (∀ (i : Nat) (r : List (Int × Int)), R[i]? = some r → ∃ Ai ci, vs[i]? = some (.slice Ai r.length ci) ∧ PartsB w2 Ai r) := ⟨fun i r hr => let ⟨Ai, ci, e1, e2⟩ := HV2.out i r hr; ⟨Ai, ci, e1, e2.later hb2⟩⟩
  have hg2 : g1 < w2.heap.size := by have := hb2.size; omega
  clear HP HR1 HB1 hO2 hP2 hb2 HV HV2
  have hKc : ¬ c1 = K := by omega
  have hKn' : K ≤ R.length := by omega
  have hKc' : K ≤ c1 := by omega
  have hKi : (0 : Int) ≤ (K : Int) := by omega
  have hKi2 : (K : Int) ≤ (R.length : Int) := by omega
  have hKi3 : (K : Int) ≤ (c1 : Int) := by omega
  go_wp2_with fail
  have hvl : vs.length = R.length := by have := HW.out.1; simpa using this
  have CA : Sec (∀ w', Below w2.heap.size w2 w' → ∀ j u, vs[j]? = some u → w'.cell? ⟨g1, j, none⟩ = some u) := ⟨fun w' h j u hu => by
    have hj := (List.getElem?_eq_some_iff.1 hu).1
    refine cell_later h ?_
    rw [HW.out.cellAt j (by omega)]; exact hu⟩
  have hB0 : Below w2.heap.size w2 (w2.alloc (.cells #[] 24)) := (Below.refl _ _).alloc (Nat.le_refl _) _
  have hO0 := Sec.mk (World.ownsRow_lit (base := w2.heap.size) (e := 24) (size := 1) w2 #[] 0 (Nat.le_refl _) (by decide) rfl)
  have hlt' : (R.drop K ++ R.take K).length = R.length := by simp; omega
  have HRt : Sec (∀ r ∈ R.drop K ++ R.take K, rightR r = true) := ⟨fun r hr => HR.out r ((turn_perm R K).mem_iff.1 hr)⟩
  have HVO : Sec (∀ u ∈ vs, u.oneCell' = true) := ⟨fun u hu => by
    obtain ⟨i, hi⟩ := List.mem_iff_getElem?.1 hu
    have hil := (List.getElem?_eq_some_iff.1 hi).1
    obtain ⟨Ai, ci, e, _⟩ := HW2.out i _ (List.getElem?_eq_getElem (by omega))
    rw [hi] at e
    injection e with e
    rw [e]; rfl⟩
  go_region_held3 (fun _ => True) (trivial)
    ((first
      | (have _t := tok2; go_at_call 12; refine HPP.mono ?_; rintro e w5 ⟨v5, rfl, hO5, hb5⟩)
      | (have _t := tok1; refine step_append_own _ (by rfl) _ _ _ (by rfl) w2.heap.size 24 i0 _ 1 24 Tryd.underlying22 HI.out Z0.out Z1.out Z2.out (by rfl) (by omega) v3 _ _ (by rfl) hown1 ⟨g1, 0, none⟩ K c1 (vs.take K) (by rfl) (by simp; omega) (by intro j u hu; rw [add_none0, Nat.zero_add]; exact CA.out _ hb23 _ _ (take_get hu)) (by intro u hu; exact HVO.out u (List.mem_of_mem_take hu)) (by unfold maxLen; omega) (by omega) hb23.size ?_; intro v4 w4 hown2 hgrow2; have tok2 : True := trivial; have hb24 : Below w2.heap.size w2 w4 := hb23.grown hgrow2 hb23.size (fun k hk => (hown1.lt k hk).1); have hOR := turned_own hKn hvl HW2.out hb24 hown2; obtain ⟨A4, c4, hv4, hR4⟩ := hOR.ress; subst hv4; rw [hlt']; have HPP := Points_right A4 c4 _ w4 hR4 (HG.out.later (btr HB2.out hb24)) (all_right HRt.out) (by rw [hlt']; exact hn); rw [hlt'] at HPP)
      | (refine step_append_own _ (by rfl) _ _ _ (by rfl) w2.heap.size 24 i0 _ 1 24 Tryd.underlying22 HI.out Z0.out Z1.out Z2.out (by rfl) (by omega) (.slice (some ⟨w2.heap.size, 0, none⟩) 0 0) _ _ (by rfl) (by first | exact hO0.out | exact hO0.out.drew) ⟨g1, K, none⟩ (R.length - K) (c1 - K) (vs.drop K) (by rfl) (by simp; omega) (by intro j u hu; rw [List.getElem?_drop] at hu; rw [add_none0]; exact CA.out _ (by first | exact hB0 | exact hB0.drew) _ _ hu) (by intro u hu; exact HVO.out u (List.mem_of_mem_drop hu)) (by unfold maxLen; omega) (by omega) (by simp) ?_; intro v3 w3 hown1 hgrow1; have tok1 : True := trivial; have hb23 : Below w2.heap.size w2 w3 := (by first | exact hB0.drew.grown hgrow1 (by simp) (fun k hk => by simp [Value.ownBlock] at hk; omega) | exact hB0.grown hgrow1 (by simp) (fun k hk => by simp [Value.ownBlock] at hk; omega)))))
  obtain ⟨A5, c5, rfl, hP5, -⟩ := parts_of_own hO5
  rw [List.length_map, hlt']
  have HP5 : Sec (Parts w5 A5 ((R.drop K ++ R.take K).map fun a => qp (matchQ R a))) := ⟨by
    have e : ((R.drop K ++ R.take K).map fun a => qp (matchQ (R.drop K ++ R.take K) a)) = ((R.drop K ++ R.take K).map fun a => qp (matchQ R a)) := List.map_congr_left fun a _ => by rw [matchQ_perm (turn_perm R K)]
    rw [← e]; exact hP5⟩
  have hb25 := btr hb24 hb5
  have HR5 := Sec.mk (HR2.out.later hb25)
  have HP25 := Sec.mk (HP2.out.later hb25)
  have HB5 := Sec.mk (btr HB2.out hb25)
  clear hO5 hP5 HPP hOR hown1 hown2 hgrow1 hgrow2 hb5 hb23 hb24 hb25 hR4 hO0 hB0 CA HVO HRt HW HW2 HP2 HR2 HB2 tok1 tok2 eK hcap hcm hKc hKc' hKi3 hg1 hg1l hg2
  go_wp2_with fail
  go_loopw [64] (fun i wr => LoopRel w5 R.length i wr) (fun i _ => R.length - (intOf i).toNat)
  case atStart => exact ⟨0, Nat.zero_le _, rfl, Below.refl _ _⟩
  case round =>
    obtain ⟨m, hm, rfl, hB⟩ := hrel
    rename World => wm
    by_cases hmt : m < R.length
    · obtain ⟨a, hp⟩ : ∃ a, R[m]? = some a := ⟨_, List.getElem?_eq_getElem hmt⟩
      have Ha := Sec.mk hp
      obtain ⟨J, hJ⟩ : ∃ J, J = (m + R.length - K) % R.length := ⟨_, rfl⟩
      have hJn : J < R.length := by rw [hJ]; exact Nat.mod_lt _ (by omega)
      have hpA : (R.map fun a => qp (matchQ R a))[m]? = some (qp (matchQ R a)) := by rw [List.getElem?_map, hp]; rfl
      have hpB : ((R.drop K ++ R.take K).map fun a => qp (matchQ R a))[J]? = some (qp (matchQ R a)) := by
        rw [List.getElem?_map, hJ, turn_at R K m hKn hmt, hp]; rfl
      have eI : (m : Int) + (R.length : Int) - (K : Int) = ((m + R.length - K : Nat) : Int) := by omega
      have e3 : ((m : Int) + (R.length : Int) - (K : Int)).tmod (R.length : Int) = (J : Int) := by rw [eI, hJ]; rfl
      have e3' : ((m : Int) + (R.length : Int) - (K : Int)) % (R.length : Int) = (J : Int) := by rw [eI, hJ]; rfl
      have e1 : IntKind.i64.wrap ((m : Int) + (R.length : Int)) = (m : Int) + (R.length : Int) := IntWalk.i64_in _ ⟨by omega, by omega⟩
      have e2 : IntKind.i64.wrap ((m : Int) + (R.length : Int) - (K : Int)) = (m : Int) + (R.length : Int) - (K : Int) := IntWalk.i64_in _ ⟨by omega, by omega⟩
      have hJi : (0 : Int) ≤ (J : Int) := by omega
      have hJi2 : (J : Int) < (R.length : Int) := by omega
      obtain ⟨b2, o2, rfl, x1, x2⟩ := HP25.out.later hB m _ hpA
      obtain ⟨b5, o5, rfl, y1, y2⟩ := HP5.out.later hB J _ hpB
      simp only [qp] at x1 x2 y1 y2
      have HBm := Sec.mk hB
      clear hp hJ hpA hpB hB eI
      go_wp2_with fail
      go_quiet (fail)
      have HBq := Sec.mk (below_drewN HBm.out nq)
      generalize wm.drewN nq = wq at *
      clear x1 x2 y1 y2 e1 e2 e3 e3' hJi hJi2 hJn HBm
      go_wp2_with fail
      go_loopw [86] (fun i wr => LoopRel w5 R.length i wr) (fun i _ => R.length - (intOf i).toNat)
      case atStart => exact ⟨0, Nat.zero_le _, rfl, HBq.out⟩
      case round =>
        obtain ⟨j, hj, rfl, hB⟩ := hrel
        rename World => wj
        by_cases hjt : j < R.length
        · obtain ⟨bb, hpb⟩ : ∃ a, R[j]? = some a := ⟨_, List.getElem?_eq_getElem hjt⟩
          have Hb := Sec.mk hpb
          obtain ⟨br, or_, e, Ai, ci, h1, h2⟩ := HR5.out.later hB m a Ha.out
          cases e
          obtain ⟨br', or', e, Bi, di, h3, h4⟩ := HR5.out.later hB j bb hpb
          cases e
          rw [Nat.zero_add] at h1 h3
          have HBj := Sec.mk hB
          have HPa := Sec.mk h2
          have HPb := Sec.mk h4
          have hpA : (R.map fun a => qp (matchQ R a))[m]? = some (qp (matchQ R a)) := by rw [List.getElem?_map, Ha.out]; rfl
          have hpB : (R.map fun a => qp (matchQ R a))[j]? = some (qp (matchQ R bb)) := by rw [List.getElem?_map, Hb.out]; rfl
          have HPA := HP25.out.later hB m _ hpA
          have HPB := HP25.out.later hB j _ hpB
          obtain ⟨b2', o2', e, x1, x2⟩ := HPA
          cases e
          obtain ⟨b2', o2', e, y1, y2⟩ := HPB
          cases e
          simp only [qp] at x1 x2 y1 y2
          clear hpb hB h2 h4 hpA hpB
          by_cases la : a.length = 1
          · by_cases lb : bb.length = 1
            · obtain ⟨p, hap⟩ := single_right (HR.out a (List.mem_of_getElem? Ha.out)) la
              obtain ⟨q, hbq⟩ := single_right (HR.out bb (List.mem_of_getElem? Hb.out)) lb
              subst hap
              subst hbq
              obtain ⟨ba, oa, rfl, z1, -⟩ := HPa.out 0 (p, 100) rfl
              obtain ⟨bc, oc, rfl, z2, -⟩ := HPb.out 0 (q, 100) rfl
              simp only [Nat.zero_mul, Nat.add_zero] at z1 z2
              simp only [List.length_cons, List.length_nil, Nat.zero_add] at h1 h3
              by_cases hge : q ≤ p
              · have hge' : decide (q ≤ p) = true := by simpa using hge
                have HC := Sec.mk fun w' => Cmp_q (matchQ R [(p, 100)]) (matchQ R [(q, 100)]) w' (matchQ_fits HR.out (List.mem_of_getElem? Ha.out) hn) (matchQ_fits HR.out (List.mem_of_getElem? Hb.out) hn)
                have hO := order_keep hge HR.out
                have hO2 := ordQ_bd' (matchQ R [(p, 100)]) (matchQ R [(q, 100)])
                generalize ordQ (matchQ R [(p, 100)]) (matchQ R [(q, 100)]) = O at *
                generalize (matchQ R [(p, 100)]).num = n1 at *
                generalize ((matchQ R [(p, 100)]).den : Int) = d1 at *
                generalize (matchQ R [(q, 100)]).num = n2 at *
                generalize ((matchQ R [(q, 100)]).den : Int) = d2 at *
                go_wp2_with fail
                go_quiet (fail)
                have hBx := Below.refl wj.heap.size wj
                go_wp2_with fail
                go_region_held3 (fun w' => w'.cell? ⟨b2, o2 + m * 2, none⟩ = some (.int .i64 n1) ∧ w'.cell? ⟨b2, o2 + m * 2 + 1, none⟩ = some (.int .i64 d1) ∧ w'.cell? ⟨b2, o2 + j * 2, none⟩ = some (.int .i64 n2) ∧ w'.cell? ⟨b2, o2 + j * 2 + 1, none⟩ = some (.int .i64 d2))
                  (first | assumption | exact ⟨x1, x2, y1, y2⟩ | exact ⟨cell_later hBx x1, cell_later hBx x2, cell_later hBx y1, cell_later hBx y2⟩)
                  ((go_at_call 31; refine (HC.out _).mono ?_; rintro e w11 ⟨rfl, hb8⟩; have hBx : Below wj.heap.size wj w11 := btr (by repeat (first | exact hBx | refine Below.drew ?_ | refine below_drewN ?_ _)) hb8))
                have hO3 : ¬ O < 0 := by omega
                clear hO x1 x2 y1 y2 z1 z2
                go_wp2_with fail
                exact ⟨⟨j + 1, hjt, rfl, btr HBj.out hBx⟩, by simp only [intOf]; omega⟩
              · have hge' : decide (q ≤ p) = false := by simpa using hge
                go_wp2_with fail
                go_quiet (fail)
                go_wp2_with fail
                exact ⟨⟨j + 1, hjt, rfl, below_drewN HBj.out _⟩, by simp only [intOf]; omega⟩
            · have hl1 : ((a.length : Int) == 1) = true := by simp [la]
              have hl2 : ((bb.length : Int) == 1) = false := beq_eq_false_iff_ne.2 (by omega)
              clear la lb
              go_wp2_with fail
              go_quiet (fail)
              go_wp2_with fail
              exact ⟨⟨j + 1, hjt, rfl, below_drewN HBj.out _⟩, by simp only [intOf]; omega⟩
          · have hl1 : ((a.length : Int) == 1) = false := beq_eq_false_iff_ne.2 (by omega)
            clear la
            go_wp2_with fail
            go_quiet (fail)
            go_wp2_with fail
            exact ⟨⟨j + 1, hjt, rfl, below_drewN HBj.out _⟩, by simp only [intOf]; omega⟩
        · have HBj := Sec.mk hB
          have hji : ¬ (j : Int) < (R.length : Int) := by omega
          clear hB
          go_wp2_with fail
          exact ⟨⟨m + 1, hmt, rfl, HBj.out⟩, by simp only [intOf]; omega⟩
    · have HW := Sec.mk (fun w' (h : Below w5.heap.size w5 w') => awake_true w' (HG.out.later (btr HB5.out h)))
      have hmi : ¬ (m : Int) < (R.length : Int) := by omega
      have HB := Sec.mk hB
      clear hB
      go_wp2_with fail
      refine (HW.out _ HB.out).mono ?_
      rintro e x3 ⟨rfl, hx3⟩
      go_wp2_with fail
      go_ret
      exact ⟨rfl, btr HB5.out (btr HB.out hx3)⟩
end Go.Proofs.YtfajnggdlhbgnaaDoor
