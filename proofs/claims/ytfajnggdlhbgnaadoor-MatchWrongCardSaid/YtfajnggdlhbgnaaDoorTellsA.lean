/- MatchTells: the walk. -/
import Derived.Test.YtfajnggdlhbgnaaDoorRefH
import Derived.Test.YtfajnggdlhbgnaaDoorMLaw
namespace Go.Proofs.YtfajnggdlhbgnaaDoor
open Go.RowKit
set_option linter.unusedVariables false
set_option linter.unusedSimpArgs false

/-- A new pair of cells; the world under one name. -/
theorem pack2 {w0 w : World} (u v : Value) (T : Nat) (hB : Below w0.heap.size w0 w) :
    ∃ w' g, w' = w.alloc (.cells #[u, v] T) ∧ g = w.heap.size ∧ Pair w' g u v ∧ Below w0.heap.size w0 w' ∧ Below w.heap.size w w' :=
  ⟨_, _, rfl, rfl, Pair.new w u v T, hB.alloc hB.size _, (Below.refl _ _).alloc (Nat.le_refl _) _⟩
theorem btr {w w1 w2 : World} (h1 : Below w.heap.size w w1) (h2 : Below w1.heap.size w1 w2) : Below w.heap.size w w2 := h1.trans (h2.mono h1.size)

/-- What Compare answers. -/
def cmpN (a b : List (Int × Int)) : Int := if (rightR a && rightR b) = true then (gainQ a b).num else 0
def cmpD (a b : List (Int × Int)) : Int := if (rightR a && rightR b) = true then ((gainQ a b).den : Int) else 0
def cmpE (a b : List (Int × Int)) : Int := if (rightR a && rightR b) = true then 0 else 2
theorem Compare_all (A B : Option Addr) (ca cb : Nat) (a b : List (Int × Int)) (w : World) (hA : Parts w A a) (hB : Parts w B b) (hG : Gets w) (la : a.length ≤ 140737488351232) (lb : b.length ≤ 140737488351232) :
    Calls Tryd.prog 17 #[.slice A a.length ca, .slice B b.length cb] w fun e w' => e = .returned (.tuple #[.agg #[.int .i64 (cmpN a b), .int .i64 (cmpD a b)], .int .i64 (cmpE a b)]) ∧ Below w.heap.size w w' := by
  unfold cmpN cmpD cmpE
  cases h : (rightR a && rightR b) with
  | false =>
    exact Compare_wrong A B ca cb a b w hA hB la lb h
  | true =>
    simp only [Bool.and_eq_true] at h
    exact Compare_right A B ca cb a b w hA hB hG h.1 h.2
theorem refCompare_all (A B : Option Addr) (ca cb : Nat) (a b : List (Int × Int)) (w : World) (hA : Parts w A a) (hB : Parts w B b) (la : a.length ≤ 1000) (lb : b.length ≤ 1000) :
    Calls Tryd.prog 19 #[.slice A a.length ca, .slice B b.length cb] w fun e w' => e = .returned (.tuple #[.agg #[.int .i64 (cmpN a b), .int .i64 (cmpD a b)], .int .i64 (cmpE a b)]) ∧ Below w.heap.size w w' := by
  unfold cmpN cmpD cmpE
  cases h : (rightR a && rightR b) with
  | false =>
    exact refCompare_wrong A B ca cb a b w hA hB la lb h
  | true =>
    simp only [Bool.and_eq_true] at h
    exact refCompare_right A B ca cb a b w hA hB h.1 h.2
/-- What Turn answers. -/
def turnE (a : List (Int × Int)) : Int := if rightR a = true then 0 else 2
def turnL (a : List (Int × Int)) : List (Int × Int) := if rightR a = true then a.map turnP else []
theorem turnL_len (a : List (Int × Int)) : (turnL a).length ≤ a.length := by unfold turnL; split <;> simp
theorem Turn_all (A : Option Addr) (c : Nat) (r : List (Int × Int)) (w : World) (hA : Parts w A r) (hl : r.length ≤ 140737488351232) :
    Calls Tryd.prog 20 #[.slice A r.length c] w fun e w' => ∃ v, e = .returned (.tuple #[v, .int .i64 (turnE r)]) ∧ w'.ownsRow w.heap.size 44 2 v (turnL r).length (partCells (turnL r)) ∧ Below w.heap.size w w' := by
  unfold turnE turnL
  cases h : rightR r with
  | false => exact (Turn_wrong A c r w hA hl h).mono fun e w' ⟨h1, h2⟩ => ⟨_, h1, World.ownsRow_nil _ _ _ _, h2⟩
  | true => exact Turn_right A c r w hA h
theorem refTurn_all (A : Option Addr) (c : Nat) (r : List (Int × Int)) (w : World) (hA : Parts w A r) (hl : r.length ≤ 1000) :
    Calls Tryd.prog 21 #[.slice A r.length c] w fun e w' => ∃ v, e = .returned (.tuple #[v, .int .i64 (turnE r)]) ∧ w'.ownsRow w.heap.size 80 2 v (turnL r).length (partCells (turnL r)) ∧ Below w.heap.size w w' := by
  unfold turnE turnL
  cases h : rightR r with
  | false => exact (refTurn_wrong A c r w hA hl h).mono fun e w' ⟨h1, h2⟩ => ⟨_, h1, World.ownsRow_nil _ _ _ _, h2 ▸ Below.refl _ _⟩
  | true => exact refTurn_right A c r w hA h

theorem sum_mid (n : Int) (w : World) (h : -1073741824 < n ∧ n < 1073741824) : Calls Tryd.prog 25 #[.int .i64 n] w fun e w' => e = .returned (.int .i64 (if n < 1 then 0 else n * (n - 1))) ∧ w = w' := by
  by_cases h1 : n < 1
  · go_enter Tryd.func25, Tryd.ntmps25
    go_wp2
    go_ret
    exact ⟨ret_i (by simp [h1]), rfl⟩
  · have hb := mul_bd n (n - 1) 1073741824 1073741824 (by omega) (by omega) (by omega) (by omega)
    have hw : IntKind.i64.wrap (n * (n - 1)) = n * (n - 1) := IntWalk.i64_in _ ⟨by omega, by omega⟩
    go_enter Tryd.func25, Tryd.ntmps25
    go_wp2
    go_ret
    exact ⟨ret_i (by first | (simp [h1]; done) | (simp [h1]; omega)), rfl⟩
theorem top_mid (n : Int) (w : World) (h : -1073741824 < n ∧ n < 1073741824) : Calls Tryd.prog 27 #[.int .i64 n] w fun e w' => e = .returned (.int .i64 (if n < 1 then 0 else 2 * (n - 1))) ∧ w = w' := by
  by_cases h1 : n < 1
  · go_enter Tryd.func27, Tryd.ntmps27
    go_wp2
    go_ret
    exact ⟨ret_i (by simp [h1]), rfl⟩
  · go_enter Tryd.func27, Tryd.ntmps27
    go_wp2
    go_ret
    exact ⟨ret_i (by first | (simp [h1]; done) | (simp [h1]; omega)), rfl⟩

/-- The points of a row of the call's own, whatever they are. -/
def TCells (w : World) (A : Option Addr) (n base : Nat) : Prop :=
  ∀ j : Nat, j < n → ∃ g : Nat, A = some ⟨g, 0, none⟩ ∧ base ≤ g ∧ g < w.heap.size ∧ (∃ v : Int, w.cell? ⟨g, j * 2, none⟩ = some (.int .i64 v)) ∧ w.frozen? ⟨g, j * 2, none⟩ = false
theorem TCells.of {w : World} {A : Option Addr} {c base : Nat} {r : List (Int × Int)} {e : TypeId} (h : w.ownsRow base e 2 (.slice A r.length c) r.length (partCells r)) : TCells w A r.length base := by
  intro j hj
  obtain ⟨g, cap, hv, hb, hg⟩ := h.form (by omega)
  simp only [Value.slice.injEq, true_and] at hv
  obtain ⟨rfl, rfl⟩ := hv
  refine ⟨g, rfl, hb, hg, ⟨(r.getD j (0, 0)).1, ?_⟩, h.frozenAt _⟩
  rw [h.cellAt (j * 2) (by omega)]
  have hp : r[j]? = some (r.getD j (0, 0)) := by rw [List.getD_eq_getElem?_getD, List.getElem?_eq_getElem hj]; rfl
  exact (partCells_at r j _ hp).1
theorem TCells.later {w w' : World} {A : Option Addr} {n base : Nat} (h : TCells w A n base) (hb : Below w.heap.size w w') : TCells w' A n base := fun j hj =>
  let ⟨g, h1, h2, h3, ⟨v, h4⟩, h5⟩ := h j hj
  ⟨g, h1, h2, Nat.lt_of_lt_of_le h3 hb.size, ⟨v, cell_later hb h4⟩, (hb.frozen (p := ⟨g, j * 2, none⟩) h3).trans h5⟩
theorem TCells.set {w : World} {g n base k : Nat} {x : Int} (h : TCells w (some ⟨g, 0, none⟩) n base) (hf : ∀ a, (w.setCell ⟨g, k * 2, none⟩ (.int .i64 x)).frozen? a = w.frozen? a)
    (hc : (w.setCell ⟨g, k * 2, none⟩ (.int .i64 x)).cell? ⟨g, k * 2, none⟩ = some (.int .i64 x)) : TCells (w.setCell ⟨g, k * 2, none⟩ (.int .i64 x)) (some ⟨g, 0, none⟩) n base := fun j hj => by
  obtain ⟨g', h1, h2, h3, ⟨v, h4⟩, h5⟩ := h j hj
  obtain rfl : g = g' := by simpa using h1
  refine ⟨g, rfl, h2, by simpa using h3, ?_, (hf _).trans h5⟩
  by_cases e : j = k
  · subst e; exact ⟨x, hc⟩
  · exact ⟨v, (World.cell?_setCell_other _ _ _ _ (fun h => e (by first | (simp at h; done) | (simp at h; omega)))).trans h4⟩

def TellRel (w : World) (A : Option Addr) (n : Nat) (i : Value) (wr : World) : Prop :=
  ∃ k : Nat, k ≤ n ∧ i = .int .i64 k ∧ TCells wr A n w.heap.size ∧ Below w.heap.size w wr

set_option maxRecDepth 100000 in
set_option maxHeartbeats 4000000 in
theorem MatchTells_any (A : Option Addr) (ca : Nat) (a : List (Int × Int)) (B : Option Addr) (cb : Nat) (b : List (Int × Int)) (n : Int) (w : World) (hA : Parts w A a) (la : a.length ≤ 9223372036854775807) (hB : Parts w B b) (lb : b.length ≤ 9223372036854775807) (hn : -9223372036854775808 ≤ n ∧ n ≤ 9223372036854775807) (hG : Gets w) :
    Calls Tryd.prog 5 #[.slice A a.length ca, .slice B b.length cb, .int .i64 n] w fun e w' => e = .returned (.bool true) ∧ Below w.heap.size w w' := by
  have HA := Sec.mk hA
  have HB := Sec.mk hB
  have HG := Sec.mk hG
  clear hA hB hG hn
  by_cases h1 : (50 : Int) < (a.length : Int)
  · have HW := Sec.mk (awake_true w HG.out)
    go_enter Tryd.func5, Tryd.ntmps5
    go_wp2_with (go_at_call 10; refine HW.out.mono ?_; rintro e w1 ⟨rfl, hb1⟩)
    go_ret
    exact ⟨rfl, hb1⟩
  by_cases h2 : (50 : Int) < (b.length : Int)
  · have HW := Sec.mk (awake_true w HG.out)
    go_enter Tryd.func5, Tryd.ntmps5
    go_wp2_with (go_at_call 10; refine HW.out.mono ?_; rintro e w1 ⟨rfl, hb1⟩)
    go_ret
    exact ⟨rfl, hb1⟩
  have la50 : a.length ≤ 50 := by omega
  have lb50 : b.length ≤ 50 := by omega
  clear la lb
  go_enter Tryd.func5, Tryd.ntmps5
  go_wp2_with fail
  refine (theirs_any A ca a w HA.out (by omega)).mono ?_
  rintro e w1 ⟨v1, rfl, hO1, hb1⟩
  obtain ⟨X, cX, rfl, hX, -⟩ := parts_of_own hO1
  have HX := Sec.mk hX
  have HB1 := Sec.mk hb1
  clear hO1 hX hb1
  go_wp2_with fail
  refine (theirs_any B cb b w1 (HB.out.later HB1.out) (by omega)).mono ?_
  rintro e w2 ⟨v2, rfl, hO2, hb2⟩
  obtain ⟨Y, cY, rfl, hY, -⟩ := parts_of_own hO2
  have HY := Sec.mk hY
  have HX2 := Sec.mk (HX.out.later hb2)
  have HB2 := Sec.mk (btr HB1.out hb2)
  clear hO2 hY hb2 HX HB1
  go_wp2_with fail
  refine (Compare_all A B ca cb a b w2 (HA.out.later HB2.out) (HB.out.later HB2.out) (HG.out.later HB2.out) (by omega) (by omega)).mono ?_
  rintro e w3' ⟨rfl, hb3⟩
  go_wp2_with fail
  obtain ⟨w3, g3, e1, e2, P3, hB3, hb3'⟩ := pack2 (w0 := w) (.int .i64 (cmpN a b)) (.int .i64 (cmpD a b)) 46 (btr HB2.out hb3)
  rw [← e1, ← e2]
  have hw23 : Below w2.heap.size w2 w3 := btr hb3 hb3'
  have HX3 := Sec.mk (HX2.out.later hw23)
  have HY3 := Sec.mk (HY.out.later hw23)
  have HB3 := Sec.mk hB3
  have HP3 := Sec.mk P3
  clear e1 e2 hb3 hb3' hw23 HX2 HY HB2 hB3 P3
  refine (refCompare_all X Y cX cY a b w3 HX3.out HY3.out (by omega) (by omega)).mono ?_
  rintro e w4' ⟨rfl, hb4⟩
  go_wp2_with fail
  obtain ⟨w4, g4, e1, e2, P4, hB4, hb4'⟩ := pack2 (w0 := w) (.int .i64 (cmpN a b)) (.int .i64 (cmpD a b)) 46 (btr HB3.out hb4)
  rw [← e1, ← e2]
  have hw34 : Below w3.heap.size w3 w4 := btr hb4 hb4'
  have HX4 := Sec.mk (HX3.out.later hw34)
  have HY4 := Sec.mk (HY3.out.later hw34)
  have HB4 := Sec.mk hB4
  have HP4 := Sec.mk P4
  have HP34 := Sec.mk (HP3.out.later hw34)
  clear e1 e2 hb4 hb4' hw34 HX3 HY3 HB3 hB4 P4 HP3
  refine (Turn_all A ca a w4 (HA.out.later HB4.out) (by omega)).mono ?_
  rintro e w5 ⟨v5, rfl, hO5, hb5⟩
  obtain ⟨T5, c5, rfl, hT5, -⟩ := parts_of_own hO5
  have HC5 := Sec.mk (TCells.of hO5)
  have HT5 := Sec.mk hT5
  have HB45 := Sec.mk hb5
  clear hO5 hT5 hb5
  go_wp2_with fail
  refine (refTurn_all X cX a w5 (HX4.out.later HB45.out) (by omega)).mono ?_
  rintro e w6 ⟨v6, rfl, hO6, hb6⟩
  obtain ⟨U6, c6, rfl, hU6, -⟩ := parts_of_own hO6
  have HB46 := Sec.mk (btr HB45.out hb6)
  have HU6 := Sec.mk hU6
  have HT6 := Sec.mk (HT5.out.later hb6)
  have HC6 := Sec.mk (HC5.out.later hb6)
  clear hO6 hU6 hb6 HT5 HC5 HB45
  go_wp2_with fail
  refine (one_any n w6).mono ?_
  rintro e w7' ⟨rfl, e7⟩
  obtain ⟨w7, g7, e1, e2, P7, hb47, hb67⟩ := pack2 (w0 := w4) (.int .i64 n) (.int .i64 100) 44 HB46.out
  rw [← e7, ← e1, ← e2]
  have HU7 := Sec.mk (HU6.out.later hb67)
  have HT7 := Sec.mk (HT6.out.later hb67)
  have HC7 := Sec.mk (HC6.out.later hb67)
  have HB47 := Sec.mk hb47
  have HX7 := Sec.mk (HX4.out.later hb47)
  have HY7 := Sec.mk (HY4.out.later hb47)
  obtain ⟨q3, q3', -, -⟩ := HP34.out.later hb47
  obtain ⟨q4, q4', -, -⟩ := HP4.out.later hb47
  obtain ⟨q7, q7', -, -⟩ := P7
  have HB7 := Sec.mk (btr HB4.out hb47)
  clear e1 e2 e7 hb47 hb67 HU6 HT6 HC6 HB46 HP34 HP4
  go_wp2_with fail
  have ht50 : (turnL a).length ≤ 50 := Nat.le_trans (turnL_len a) la50
  refine (kept_same T5 U6 c5 c6 (turnL a) w7 HT7.out HU7.out (by omega)).mono ?_
  rintro e w8 ⟨rfl, hb8⟩
  have HB48 := Sec.mk (btr HB47.out hb8)
  have HB8 := Sec.mk (btr HB7.out hb8)
  have HC8 := Sec.mk (HC7.out.later hb8)
  have HX8 := Sec.mk (HX7.out.later hb8)
  have HY8 := Sec.mk (HY7.out.later hb8)
  replace q7 := cell_later hb8 q7
  replace q7' := cell_later hb8 q7'
  clear hb8 HU7 HT7 HC7 HB47 HX7 HY7 HB7 q3 q3' q4 q4'
  go_wp2_with fail
  refine (right_any_len A ca a w8 (HA.out.later HB8.out) (by omega)).mono ?_
  rintro e w9 ⟨rfl, hb9⟩
  have HB49 := Sec.mk (btr HB48.out hb9)
  have HB9 := Sec.mk (btr HB8.out hb9)
  have HC9 := Sec.mk (HC8.out.later hb9)
  have HX9 := Sec.mk (HX8.out.later hb9)
  have HY9 := Sec.mk (HY8.out.later hb9)
  replace q7 := cell_later hb9 q7
  replace q7' := cell_later hb9 q7'
  clear hb9 HC8 HX8 HY8 HB48 HB8
  go_wp2_with fail
  refine (refRight_any X cX a w9 HX9.out (by omega)).mono ?_
  rintro e w9 ⟨rfl, rfl⟩
  generalize turnL a = tl at *
  generalize rightR a = ra at *
  have hra : (ra != ra) = false := by cases ra <;> rfl
  go_wp2_with fail
  go_loopw [97] (fun i wr => TellRel w4 T5 tl.length i wr) (fun i _ => tl.length - (intOf i).toNat)
  case atStart => exact ⟨0, Nat.zero_le _, rfl, HC9.out, HB49.out⟩
  case round =>
    clear q7 q7' hra
    obtain ⟨k, hk, rfl, hC, hB⟩ := hrel
    by_cases hlt : k < tl.length
    · obtain ⟨g, rfl, hbg, hgl, ⟨v, hv⟩, hfz⟩ := hC k hlt
      have HC := Sec.mk hC
      have HBk := Sec.mk hB
      clear hC hB
      go_wp2_with fail
      refine ⟨⟨k + 1, hlt, rfl, HC.out.set (fun _ => ?_) ?_, HBk.out.setCell hbg _⟩, by simp only [intOf]; omega⟩
      · simp
      · go_simp
    · have HBf := Sec.mk (btr HB4.out hB)
      have HXf := Sec.mk (HX4.out.later hB)
      have HYf := Sec.mk (HY4.out.later hB)
      have hki : ¬ (k : Int) < (tl.length : Int) := by omega
      clear hB hC
      by_cases n1 : n < 1073741824
      · by_cases n2 : -1073741824 < n
        · go_wp2_with (first | (go_at_call 25; refine (sum_mid n _ ⟨n2, n1⟩).mono ?_; rintro e w3 ⟨rfl, rfl⟩) | (go_at_call 26; refine (refSum_any n _ ⟨n2, n1⟩).mono ?_; rintro e w3 ⟨rfl, rfl⟩) | (go_at_call 27; refine (top_mid n _ ⟨n2, n1⟩).mono ?_; rintro e w3 ⟨rfl, rfl⟩) | (go_at_call 28; refine (refTop_any n _ ⟨n2, n1⟩).mono ?_; rintro e w3 ⟨rfl, rfl⟩))
          all_goals
            refine (kept_same A X ca cX a wr (HA.out.later HBf.out) HXf.out (by omega)).mono ?_
            rintro e x1 ⟨rfl, hx1⟩
            have hy1 := btr HBf.out hx1
            go_wp2_with fail
            refine (kept_same B Y cb cY b x1 (HB.out.later hy1) (HYf.out.later hx1) (by omega)).mono ?_
            rintro e x2 ⟨rfl, hx2⟩
            have hy2 := btr hy1 hx2
            go_wp2_with fail
            refine (awake_true x2 (HG.out.later hy2)).mono ?_
            rintro e x3 ⟨rfl, hx3⟩
            go_wp2_with fail
            go_ret
            exact ⟨rfl, btr hy2 hx3⟩
        · go_wp2_with fail
          refine (kept_same A X ca cX a wr (HA.out.later HBf.out) HXf.out (by omega)).mono ?_
          rintro e x1 ⟨rfl, hx1⟩
          have hy1 := btr HBf.out hx1
          go_wp2_with fail
          refine (kept_same B Y cb cY b x1 (HB.out.later hy1) (HYf.out.later hx1) (by omega)).mono ?_
          rintro e x2 ⟨rfl, hx2⟩
          have hy2 := btr hy1 hx2
          go_wp2_with fail
          refine (awake_true x2 (HG.out.later hy2)).mono ?_
          rintro e x3 ⟨rfl, hx3⟩
          go_wp2_with fail
          go_ret
          exact ⟨rfl, btr hy2 hx3⟩
      · go_wp2_with fail
        refine (kept_same A X ca cX a wr (HA.out.later HBf.out) HXf.out (by omega)).mono ?_
        rintro e x1 ⟨rfl, hx1⟩
        have hy1 := btr HBf.out hx1
        go_wp2_with fail
        refine (kept_same B Y cb cY b x1 (HB.out.later hy1) (HYf.out.later hx1) (by omega)).mono ?_
        rintro e x2 ⟨rfl, hx2⟩
        have hy2 := btr hy1 hx2
        go_wp2_with fail
        refine (awake_true x2 (HG.out.later hy2)).mono ?_
        rintro e x3 ⟨rfl, hx3⟩
        go_wp2_with fail
        go_ret
        exact ⟨rfl, btr hy2 hx3⟩
end Go.Proofs.YtfajnggdlhbgnaaDoor
