/- MatchPairs: the walk. -/
import Derived.Test.YtfajnggdlhbgnaaDoorTellsA
import Derived.Test.YtfajnggdlhbgnaaDoorAll
namespace Go.Proofs.YtfajnggdlhbgnaaDoor
open Go.RowKit
set_option linter.unusedVariables false
set_option linter.unusedSimpArgs false

theorem smalls_right {w : World} {A : Option Addr} {l : List Sm} (h : Smalls w A l) (k : Nat) : ∀ r ∈ (l.take k).map Sm.r, rightR r = true := by
  intro r hr
  obtain ⟨s, hs, rfl⟩ := List.mem_map.1 hr
  obtain ⟨j, hj⟩ := List.mem_iff_getElem?.1 (List.mem_of_mem_take hs)
  obtain ⟨_, _, _, _, _, _, h⟩ := h j s hj
  exact Sm.right h
theorem all_right {l : List (List (Int × Int))} (h : ∀ r ∈ l, rightR r = true) : l.any (fun r => !rightR r) = false := by
  rw [List.any_eq_false]
  intro r hr
  rw [h r hr]; decide
theorem Add_eq (p q r : Rat) (w : World) (hp : fits p) (hq : fits q) (hr : fits r) (h : p + q = r) :
    Calls Tryd.prog 32 #[.agg #[.int .i64 p.num, .int .i64 p.den], .agg #[.int .i64 q.num, .int .i64 q.den]] w fun e w' => e = .returned (.tuple #[.agg #[.int .i64 r.num, .int .i64 r.den], .int .i64 0]) ∧ Below w.heap.size w w' := by
  have h1 := Add_q p q w hp hq
  rw [h, qN_fits hr, qD_fits hr, qE_fits hr] at h1
  exact h1
theorem Cmp_int (p : Rat) (n : Int) (w : World) (hp : fits p) (hn : -9223372036854775808 ≤ n ∧ n ≤ 9223372036854775807) :
    Calls Tryd.prog 31 #[.agg #[.int .i64 p.num, .int .i64 p.den], .agg #[.int .i64 n, .int .i64 1]] w fun e w' => e = .returned (.tuple #[.int .i64 (ordQ p (n : Rat)), .int .i64 0]) ∧ Below w.heap.size w w' := by
  have h := Cmp_q p (n : Rat) w hp (fits_int n hn)
  rw [Rat.num_intCast, Rat.den_intCast] at h
  exact h
theorem gainQ_fits {a b : List (Int × Int)} (ha : rightR a = true) (hb : rightR b = true) : fits (gainQ a b) :=
  quot_fits _ (by have := gainR_nonneg ha hb; have := gainR_le ha hb; omega)
theorem gainQ_both {a b : List (Int × Int)} (ha : rightR a = true) (hb : rightR b = true) : gainQ a b + gainQ b a = ((2 : Int) : Rat) := by
  unfold gainQ
  rw [quot_add, gainR_both ha hb, ← quot_int 2]
  rfl
theorem gainQ_self {a : List (Int × Int)} (ha : rightR a = true) : gainQ a a = ((1 : Int) : Rat) := by
  unfold gainQ
  rw [gainR_self ha, ← quot_int 1]
  rfl
theorem gainQ_self1 {a : List (Int × Int)} (ha : rightR a = true) : (gainQ a a).num = 1 ∧ ((gainQ a a).den : Int) = 1 := by
  rw [gainQ_self ha, Rat.num_intCast, Rat.den_intCast]; exact ⟨rfl, rfl⟩
theorem matchQ_fits {l : List (List (Int × Int))} {a : List (Int × Int)} (hl : ∀ r ∈ l, rightR r = true) (ha : a ∈ l) (hn : l.length ≤ 24) : fits (matchQ l a) :=
  quot_fits _ (by have := matchN_le hl ha; omega)

/-- What the result with an index gets from the first m others. -/
def amongQ (l : List (List (Int × Int))) (i m : Nat) : Rat := ((amongN l i m : Int) : Rat) / ((10000 : Int) : Rat)
theorem amongQ_zero (l : List (List (Int × Int))) (i : Nat) : amongQ l i 0 = ((0 : Int) : Rat) := by
  unfold amongQ amongN
  rw [sumTo_zero, if_neg (by omega)]
  exact quot_int 0
theorem amongQ_all {l : List (List (Int × Int))} {i : Nat} {a : List (Int × Int)} (h : l[i]? = some a) : amongQ l i l.length = matchQ l a := by
  unfold amongQ matchQ
  rw [amongN_all l i a h]
theorem amongQ_same {l : List (List (Int × Int))} {i : Nat} {a : List (Int × Int)} (h : l[i]? = some a) : amongQ l i (i + 1) = amongQ l i i := by
  unfold amongQ
  rw [amongN_succ h, if_pos rfl, Int.add_zero]
theorem amongQ_other {l : List (List (Int × Int))} {i m : Nat} {a b : List (Int × Int)} (h : l[i]? = some a) (hm : l[m]? = some b) (hne : ¬ i = m) : amongQ l i m + gainQ a b = amongQ l i (m + 1) := by
  unfold amongQ gainQ
  rw [amongN_succ hm, if_neg (by omega), quot_add, List.getD_eq_getElem?_getD, h]
  rfl
theorem amongQ_fits {l : List (List (Int × Int))} (hl : ∀ r ∈ l, rightR r = true) (hn : l.length ≤ 24) {i m : Nat} {a : List (Int × Int)} (h : l[i]? = some a) (hm : m ≤ l.length) : fits (amongQ l i m) := by
  have hw : ∀ r ∈ l, weightsOk r := fun r hr => right_weights (hl r hr)
  have hi := (List.getElem?_eq_some_iff.1 h).1
  have h0 := amongN_nonneg hw h m hm
  have h2 := sumTo_bd (gainR a) l 320000 (by omega) (fun r hr => gainR_bd a r (hw a (List.mem_of_getElem? h)) (hw r hr)) m hm
  have h3 := gainR_self (hl a (List.mem_of_getElem? h))
  refine quot_fits _ ?_
  have hga : l.getD i [] = a := by rw [List.getD_eq_getElem?_getD, h]; rfl
  unfold amongN at h0 ⊢
  rw [hga, h3] at h0 ⊢
  by_cases him : i < m
  · rw [if_pos him] at h0 ⊢; omega
  · rw [if_neg him] at h0 ⊢; omega

def LoopRel (w : World) (n : Nat) (i : Value) (wr : World) : Prop := ∃ k : Nat, k ≤ n ∧ i = .int .i64 k ∧ Below w.heap.size w wr
def PairRel (w : World) (l : List (List (Int × Int))) (k : Nat) (i : Value) (wx : World) : Prop :=
  ∃ m : Nat, m ≤ l.length ∧ i = .int .i64 m ∧ Pair wx w.heap.size (.int .i64 (amongQ l k m).num) (.int .i64 ((amongQ l k m).den : Int)) ∧ Below w.heap.size w wx

set_option maxRecDepth 100000 in
set_option maxHeartbeats 4000000 in
theorem MatchPairs_any (A : Option Addr) (c : Nat) (l : List Sm) (w : World) (hA : Smalls w A l) (hl : l.length ≤ c ∧ c ≤ 9223372036854775807) (hG : Gets w) :
    Calls Tryd.prog 8 #[.slice A l.length c] w fun e w' => e = .returned (.bool true) ∧ Below w.heap.size w w' := by
  have HAll := Sec.mk (All_any A c l 12 w hA hl (by omega))
  have HR := Sec.mk (smalls_right hA 12)
  have hn : ((l.take 12).map Sm.r).length ≤ 12 := by simp; omega
  have HG := Sec.mk hG
  clear hA hl hG
  generalize (l.take 12).map Sm.r = R at *
  go_enter Tryd.func8, Tryd.ntmps8
  go_wp2_with fail
  refine HAll.out.mono ?_
  rintro e w1 ⟨v1, rfl, hO, hb1⟩
  obtain ⟨A1, c1, rfl, hR1⟩ := hO.ress
  have HP := Sec.mk (Points_right A1 c1 R w1 hR1 (HG.out.later hb1) (all_right HR.out) (by omega))
  have HR1 := Sec.mk hR1
  have HB1 := Sec.mk hb1
  clear hO hR1 hb1 HAll
  go_wp2_with fail
  refine HP.out.mono ?_
  rintro e w2 ⟨v2, rfl, hO2, hb2⟩
  obtain ⟨A2, c2, rfl, hP2, -⟩ := parts_of_own hO2
  rw [List.length_map]
  have HP2 := Sec.mk hP2
  have HR2 := Sec.mk (HR1.out.later hb2)
  have HB2 := Sec.mk (btr HB1.out hb2)
  clear HP HR1 HB1 hO2 hP2 hb2
  go_wp2_with fail
  go_loopw [35] (fun i wr => LoopRel w2 R.length i wr) (fun i _ => R.length - (intOf i).toNat)
  case atStart => exact ⟨0, Nat.zero_le _, rfl, Below.refl _ _⟩
  case round =>
    obtain ⟨k, hk, rfl, hB⟩ := hrel
    by_cases hlt : k < R.length
    · obtain ⟨a, hp⟩ : ∃ a, R[k]? = some a := ⟨_, List.getElem?_eq_getElem hlt⟩
      obtain ⟨b, o, rfl, Ai, ci, h1, h2⟩ := HR2.out.later hB k a hp
      have Ha := Sec.mk hp
      have ra := Sec.mk (HR.out a (List.mem_of_getElem? hp))
      have HPa := Sec.mk h2
      have HBk := Sec.mk hB
      clear hp h2 hB
      go_wp2_with fail
      refine (whole_any 0 _).mono ?_
      rintro e w3 ⟨rfl, hb3⟩
      have HBr3 := Sec.mk hb3
      have HB23 := Sec.mk (btr HBk.out hb3)
      clear hb3 h1
      go_wp2_with fail
      go_loopw [43] (fun i wx => PairRel w3 R k i wx) (fun i _ => R.length - (intOf i).toNat)
      case atStart => exact ⟨0, Nat.zero_le _, rfl, by rw [amongQ_zero]; exact Pair.new w3 _ _ _, (Below.refl _ _).alloc (Nat.le_refl _) _⟩
      case round =>
        obtain ⟨m, hm, rfl, hP8, hB⟩ := hrel
        rename World => wx
        by_cases hmt : m < R.length
        · obtain ⟨bb, hpb⟩ : ∃ a, R[m]? = some a := ⟨_, List.getElem?_eq_getElem hmt⟩
          obtain ⟨b', o', e, Bi, di, h1, h2⟩ := HR2.out.later (btr HB23.out hB) m bb hpb
          cases e
          have Hb := Sec.mk hpb
          have rb := Sec.mk (HR.out bb (List.mem_of_getElem? hpb))
          have HP8 := Sec.mk hP8
          have HBx := Sec.mk hB
          have HPA := Sec.mk ((HPa.out.later HBr3.out).later hB)
          have HPB := Sec.mk h2
          have HGx := Sec.mk (HG.out.later (btr HB2.out (btr HB23.out hB)))
          clear hpb h2 hP8 hB
          go_wp2_with fail
          refine (Compare_right Ai Bi ci di a bb wx HPA.out HPB.out HGx.out ra.out rb.out).mono ?_
          rintro e w4' ⟨rfl, hb4⟩
          go_wp2_with fail
          obtain ⟨w4, g4, e1, e2, P4, hB4, -⟩ := pack2 (w0 := wx) (.int .i64 (gainQ a bb).num) (.int .i64 ((gainQ a bb).den : Int)) 46 hb4
          rw [← e1, ← e2]
          have HP4 := Sec.mk P4
          have HB4 := Sec.mk hB4
          clear e1 e2 hb4 P4 hB4
          refine (Compare_right Bi Ai di ci bb a w4 (HPB.out.later HB4.out) (HPA.out.later HB4.out) (HGx.out.later HB4.out) rb.out ra.out).mono ?_
          rintro e w5' ⟨rfl, hb5⟩
          obtain ⟨q1, q2, -, -⟩ := HP4.out.later hb5
          have ql := HP4.out.lt' hb5
          have HA5 := Sec.mk fun (w' : World) => Add_eq (gainQ a bb) (gainQ bb a) ((2 : Int) : Rat) w' (gainQ_fits ra.out rb.out) (gainQ_fits rb.out ra.out) (fits_int 2 (by omega)) (gainQ_both ra.out rb.out)
          rw [Rat.num_intCast, Rat.den_intCast, show ((1 : Nat) : Int) = 1 from rfl] at HA5
          go_wp2_with fail
          obtain ⟨w5, g5, e1, e2, P5, hB5, hb5'⟩ := pack2 (w0 := wx) (.int .i64 (gainQ bb a).num) (.int .i64 ((gainQ bb a).den : Int)) 46 (btr HB4.out hb5)
          rw [← e1, ← e2]
          have HP45 := Sec.mk ((HP4.out.later hb5).later hb5')
          have HB5 := Sec.mk hB5
          clear e1 e2 P5 hB5 hb5' hb5 q1 q2 ql HP4 HB4
          refine (HA5.out _).mono ?_
          rintro e w6 ⟨rfl, hb6⟩
          have HP46 := Sec.mk (HP45.out.later hb6)
          have HB6 := Sec.mk (btr HB5.out hb6)
          obtain ⟨q1, q2, -, -⟩ := HP46.out
          have ql := HP46.out.lt
          clear hb6 HP45 HB5
          go_wp2_with fail
          obtain ⟨w7, g6, e1, e2, P6, hB7, hb67⟩ := pack2 (w0 := wx) (.int .i64 2) (.int .i64 1) 46 HB6.out
          rw [← e1, ← e2]
          obtain ⟨a1, a2, -, -⟩ := HP46.out.later hb67
          obtain ⟨d1, d2, -, -⟩ := P6
          have HB7 := Sec.mk hB7
          have HP7 := Sec.mk (HP46.out.later hb67)
          clear e1 e2 hB7 hb67 HP46 HB6 q1 q2 ql HA5 h1
          have hBx := Below.refl w7.heap.size w7
          by_cases hkm : k = m
          · subst hkm
            obtain rfl : a = bb := by have := Ha.out.symm.trans Hb.out; simpa using this
            rw [(gainQ_self1 ra.out).1] at a1
            rw [(gainQ_self1 ra.out).2] at a2
            go_region_held3 (fun w' => w'.cell? ⟨g4, 0, none⟩ = some (.int .i64 1) ∧ w'.cell? ⟨g4, 1, none⟩ = some (.int .i64 1) ∧ w'.cell? ⟨g6, 0, none⟩ = some (.int .i64 2) ∧ w'.cell? ⟨g6, 1, none⟩ = some (.int .i64 1))
              (first | assumption | exact ⟨a1, a2, d1, d2⟩ | exact ⟨cell_later hBx a1, cell_later hBx a2, cell_later hBx d1, cell_later hBx d2⟩)
              ((go_at_call 29; refine (whole_any _ _).mono ?_; rintro e w8 ⟨rfl, hb8⟩; have hBx : Below w7.heap.size w7 w8 := btr (by repeat (first | exact hBx | refine Below.drew ?_ | refine below_drewN ?_ _)) hb8))
            have HP9 := Sec.mk ((HP8.out.later HB7.out).later hBx)
            have HB9 := Sec.mk (btr HBx.out (btr HB7.out hBx))
            clear hBx HP8 HB7 HBx a1 a2 d1 d2
            go_wp2_with fail
            exact ⟨⟨k + 1, hmt, rfl, by rw [amongQ_same Ha.out]; exact HP9.out, HB9.out⟩, by simp only [intOf]; omega⟩
          · have hkE : ((k : Int) == (m : Int)) = false := beq_eq_false_iff_ne.2 (by omega)
            have hkN : ((k : Int) != (m : Int)) = true := bne_iff_ne.2 (by omega)
            refine wp_region_held_drew (S := fun w' => w'.cell? ⟨g6, 0, none⟩ = some (.int .i64 2) ∧ w'.cell? ⟨g6, 1, none⟩ = some (.int .i64 1)) (by kernel_rfl) ⟨d1, d2⟩ (fun hHeld => ?_)
            refine wpAnyH_take (i := 0) (oi := ⟨some 66, _, _, _, _, _⟩) (v := ?_) rfl (by kernel_rfl) (by kernel_rfl) (by kernel_rfl) (fun _ _ _ h => h) (Or.inl ⟨rfl, ?_⟩) hHeld ?_
            case refine_2 => (intro w hS; (try obtain ⟨_, hS⟩ := hS); (try obtain ⟨_, hS⟩ := hS); (try obtain ⟨_, hS⟩ := hS); go_simp; try with_reducible rfl)
            try simp only [Act.put, List.setIfInBounds_toArray, List.set_cons_zero, List.set_cons_succ]
            refine wpAnyH_take (i := 1) (oi := ⟨some 67, _, _, _, _, _⟩) (v := ?_) rfl (by kernel_rfl) (by kernel_rfl) (by kernel_rfl) (fun _ _ _ h => h) (Or.inl ⟨rfl, ?_⟩) hHeld ?_
            case refine_2 => (intro w hS; (try obtain ⟨_, hS⟩ := hS); (try obtain ⟨_, hS⟩ := hS); (try obtain ⟨_, hS⟩ := hS); go_simp; try with_reducible rfl)
            try simp only [Act.put, List.setIfInBounds_toArray, List.set_cons_zero, List.set_cons_succ]
            refine wpAnyH_take (i := 2) (oi := ⟨some 68, _, _, _, _, _⟩) (v := ?_) rfl (by kernel_rfl) (by kernel_rfl) (by kernel_rfl) (fun _ _ _ h => h) (Or.inl ⟨rfl, ?_⟩) hHeld ?_
            case refine_2 => (intro w hS; (try obtain ⟨_, hS⟩ := hS); (try obtain ⟨_, hS⟩ := hS); (try obtain ⟨_, hS⟩ := hS); go_simp; try with_reducible rfl)
            try simp only [Act.put, List.setIfInBounds_toArray, List.set_cons_zero, List.set_cons_succ]
            refine wpAnyH_take (i := 3) (oi := ⟨some 69, _, _, _, _, _⟩) (v := ?_) rfl (by kernel_rfl) (by kernel_rfl) (by kernel_rfl) (fun _ _ _ h => h) (Or.inl ⟨rfl, ?_⟩) hHeld ?_
            case refine_2 => (intro w hS; (try obtain ⟨_, hS⟩ := hS); (try obtain ⟨_, hS⟩ := hS); (try obtain ⟨_, hS⟩ := hS); go_simp; try with_reducible rfl)
            try simp only [Act.put, List.setIfInBounds_toArray, List.set_cons_zero, List.set_cons_succ]
            refine wpAnyH_take (i := 4) (oi := ⟨some 70, _, _, _, _, _⟩) (v := ?_) rfl (by kernel_rfl) (by kernel_rfl) (by kernel_rfl) (fun _ _ _ h => h) (Or.inl ⟨rfl, ?_⟩) hHeld ?_
            case refine_2 => (intro w hS; (try obtain ⟨_, hS⟩ := hS); (try obtain ⟨_, hS⟩ := hS); (try obtain ⟨_, hS⟩ := hS); go_simp; try with_reducible rfl)
            try simp only [Act.put, List.setIfInBounds_toArray, List.set_cons_zero, List.set_cons_succ]
            refine wpAnyH_take (i := 5) (oi := ⟨some 71, _, _, _, _, _⟩) (v := ?_) rfl (by kernel_rfl) (by kernel_rfl) (by kernel_rfl) (fun _ _ _ h => h) (Or.inl ⟨rfl, ?_⟩) hHeld ?_
            case refine_2 => (intro w hS; (try obtain ⟨_, hS⟩ := hS); (try obtain ⟨_, hS⟩ := hS); (try obtain ⟨_, hS⟩ := hS); go_simp; try with_reducible rfl)
            try simp only [Act.put, List.setIfInBounds_toArray, List.set_cons_zero, List.set_cons_succ]
            refine wpAnyH_take (i := 6) (oi := ⟨some 72, _, _, _, _, _⟩) (v := ?_) rfl (by kernel_rfl) (by kernel_rfl) (by kernel_rfl) (fun _ _ _ h => h) (Or.inl ⟨rfl, ?_⟩) hHeld ?_
            case refine_2 => (intro w hS; (try obtain ⟨_, hS⟩ := hS); (try obtain ⟨_, hS⟩ := hS); (try obtain ⟨_, hS⟩ := hS); go_simp; try with_reducible rfl)
            try simp only [Act.put, List.setIfInBounds_toArray, List.set_cons_zero, List.set_cons_succ]
            refine wpAnyH_take (i := 7) (oi := ⟨some 73, _, _, _, _, _⟩) (v := ?_) rfl (by kernel_rfl) (by kernel_rfl) (by kernel_rfl) (fun _ _ _ h => h) (Or.inl ⟨rfl, ?_⟩) hHeld ?_
            case refine_2 => (intro w hS; (try obtain ⟨_, hS⟩ := hS); (try obtain ⟨_, hS⟩ := hS); (try obtain ⟨_, hS⟩ := hS); go_simp; try with_reducible rfl)
            try simp only [Act.put, List.setIfInBounds_toArray, List.set_cons_zero, List.set_cons_succ]
            refine wpAnyH_ready (rs := [8]) (by kernel_rfl) (by simp) ?_
            refine AllReadyH.cons (o := _) rfl (fun K hK => ?_) AllReadyH.nil
            go_simp
            refine (whole_any _ _).mono ?_; rintro e w8 ⟨rfl, hb8⟩
            have hBx : Below w7.heap.size w7 w8 := btr (by repeat (first | exact hBx | refine Below.drew ?_ | refine below_drewN ?_ _)) hb8
            refine hK.out _ _ ⟨cell_later hBx d1, cell_later hBx d2⟩ (fun hHeld2 => ?_)
            clear hK K
            refine wpAnyH_take (i := 9) (oi := ⟨some 75, _, _, _, _, _⟩) (v := ?_) rfl (by kernel_rfl) (by kernel_rfl) (by kernel_rfl) (fun _ _ _ h => h) (Or.inl ⟨rfl, ?_⟩) hHeld2 ?_
            case refine_2 => (intro w hS; (try obtain ⟨_, hS⟩ := hS); (try obtain ⟨_, hS⟩ := hS); (try obtain ⟨_, hS⟩ := hS); go_simp; try with_reducible rfl)
            try simp only [Act.put, List.setIfInBounds_toArray, List.set_cons_zero, List.set_cons_succ]
            refine wpAnyH_take (i := 10) (oi := ⟨some 76, _, _, _, _, _⟩) (v := ?_) rfl (by kernel_rfl) (by kernel_rfl) (by kernel_rfl) (fun _ _ _ h => h) (Or.inl ⟨rfl, ?_⟩) hHeld2 ?_
            case refine_2 => (intro w hS; (try obtain ⟨_, hS⟩ := hS); (try obtain ⟨_, hS⟩ := hS); (try obtain ⟨_, hS⟩ := hS); go_simp; try with_reducible rfl)
            try simp only [Act.put, List.setIfInBounds_toArray, List.set_cons_zero, List.set_cons_succ]
            refine wpAnyH_take (i := 11) (oi := ⟨some 77, _, _, _, _, _⟩) (v := ?_) rfl (by kernel_rfl) (by kernel_rfl) (by kernel_rfl) (fun _ _ _ h => h) (Or.inl ⟨rfl, ?_⟩) hHeld2 ?_
            case refine_2 => (intro w hS; (try obtain ⟨_, hS⟩ := hS); (try obtain ⟨_, hS⟩ := hS); (try obtain ⟨_, hS⟩ := hS); go_simp; try with_reducible rfl)
            try simp only [Act.put, List.setIfInBounds_toArray, List.set_cons_zero, List.set_cons_succ]
            refine wpAnyH_take (i := 12) (oi := ⟨some 78, _, _, _, _, _⟩) (v := ?_) rfl (by kernel_rfl) (by kernel_rfl) (by kernel_rfl) (fun _ _ _ h => h) (Or.inl ⟨rfl, ?_⟩) hHeld2 ?_
            case refine_2 => (intro w hS; (try obtain ⟨_, hS⟩ := hS); (try obtain ⟨_, hS⟩ := hS); (try obtain ⟨_, hS⟩ := hS); go_simp; try with_reducible rfl)
            try simp only [Act.put, List.setIfInBounds_toArray, List.set_cons_zero, List.set_cons_succ]
            refine wpAnyH_take (i := 13) (oi := ⟨some 79, _, _, _, _, _⟩) (v := ?_) rfl (by kernel_rfl) (by kernel_rfl) (by kernel_rfl) (fun _ _ _ h => h) (Or.inl ⟨rfl, ?_⟩) hHeld2 ?_
            case refine_2 => (intro w hS; (try obtain ⟨_, hS⟩ := hS); (try obtain ⟨_, hS⟩ := hS); (try obtain ⟨_, hS⟩ := hS); go_simp; try with_reducible rfl)
            try simp only [Act.put, List.setIfInBounds_toArray, List.set_cons_zero, List.set_cons_succ]
            refine wpAnyH_take (i := 14) (oi := ⟨some 80, _, _, _, _, _⟩) (v := ?_) rfl (by kernel_rfl) (by kernel_rfl) (by kernel_rfl) (fun _ _ _ h => h) (Or.inl ⟨rfl, ?_⟩) hHeld2 ?_
            case refine_2 => (intro w hS; (try obtain ⟨_, hS⟩ := hS); (try obtain ⟨_, hS⟩ := hS); (try obtain ⟨_, hS⟩ := hS); go_simp; try with_reducible rfl)
            try simp only [Act.put, List.setIfInBounds_toArray, List.set_cons_zero, List.set_cons_succ]
            refine wpAnyH_take (i := 15) (oi := ⟨some 81, _, _, _, _, _⟩) (v := ?_) rfl (by kernel_rfl) (by kernel_rfl) (by kernel_rfl) (fun _ _ _ h => h) (Or.inl ⟨rfl, ?_⟩) hHeld2 ?_
            case refine_2 => (intro w hS; (try obtain ⟨_, hS⟩ := hS); (try obtain ⟨_, hS⟩ := hS); (try obtain ⟨_, hS⟩ := hS); go_simp; try with_reducible rfl)
            try simp only [Act.put, List.setIfInBounds_toArray, List.set_cons_zero, List.set_cons_succ]
            refine wpAnyH_take (i := 16) (v := undef) rfl (by kernel_rfl) (by kernel_rfl) (by kernel_rfl) (fun _ _ _ h => h) (Or.inr ⟨rfl, rfl⟩) hHeld2 ?_
            try simp only [Act.put, List.setIfInBounds_toArray, List.set_cons_zero, List.set_cons_succ]
            refine wpAnyH_take (i := 17) (v := undef) rfl (by kernel_rfl) (by kernel_rfl) (by kernel_rfl) (fun _ _ _ h => h) (Or.inr ⟨rfl, rfl⟩) hHeld2 ?_
            try simp only [Act.put, List.setIfInBounds_toArray, List.set_cons_zero, List.set_cons_succ]
            refine wpAnyH_take (i := 18) (v := undef) rfl (by kernel_rfl) (by kernel_rfl) (by kernel_rfl) (fun _ _ _ h => h) (Or.inr ⟨rfl, rfl⟩) hHeld2 ?_
            try simp only [Act.put, List.setIfInBounds_toArray, List.set_cons_zero, List.set_cons_succ]
            refine wpAnyH_take (i := 19) (oi := ⟨some 85, _, _, _, _, _⟩) (v := ?_) rfl (by kernel_rfl) (by kernel_rfl) (by kernel_rfl) (fun _ _ _ h => h) (Or.inl ⟨rfl, ?_⟩) hHeld2 ?_
            case refine_2 => (intro w hS; (try obtain ⟨_, hS⟩ := hS); (try obtain ⟨_, hS⟩ := hS); (try obtain ⟨_, hS⟩ := hS); go_simp; try with_reducible rfl)
            try simp only [Act.put, List.setIfInBounds_toArray, List.set_cons_zero, List.set_cons_succ]
            refine wpAnyH_take (i := 20) (oi := ⟨some 86, _, _, _, _, _⟩) (v := ?_) rfl (by kernel_rfl) (by kernel_rfl) (by kernel_rfl) (fun _ _ _ h => h) (Or.inl ⟨rfl, ?_⟩) hHeld2 ?_
            case refine_2 => (intro w hS; (try obtain ⟨_, hS⟩ := hS); (try obtain ⟨_, hS⟩ := hS); (try obtain ⟨_, hS⟩ := hS); go_simp; try with_reducible rfl)
            try simp only [Act.put, List.setIfInBounds_toArray, List.set_cons_zero, List.set_cons_succ]
            refine wpAnyH_done (by kernel_rfl) ?_ _
            have HP9 := Sec.mk ((HP8.out.later HB7.out).later hBx)
            have HB9 := Sec.mk (btr HBx.out (btr HB7.out hBx))
            obtain ⟨s1, s2, -, -⟩ := HP9.out
            obtain ⟨f1, f2, -, -⟩ := HP7.out.later hBx
            have HA9 := Sec.mk fun (w' : World) => Add_eq (amongQ R k m) (gainQ a bb) (amongQ R k (m + 1)) w' (amongQ_fits HR.out (by omega) Ha.out hm) (gainQ_fits ra.out rb.out) (amongQ_fits HR.out (by omega) Ha.out hmt) (amongQ_other Ha.out Hb.out hkm)
            clear hBx HP8 HP7 HB7 HBx a1 a2 d1 d2 hkm
            go_wp2_with fail
            refine (HA9.out _).mono ?_
            rintro e w10 ⟨rfl, hb10⟩
            obtain ⟨s3, s4, s5, s6⟩ := HP9.out.later hb10
            have sl := HP9.out.lt' hb10
            have HB10 := Sec.mk (btr HB9.out hb10)
            clear hb10 HP9 HB9 f1 f2 s1 s2
            go_wp2_with fail
            refine ⟨⟨m + 1, hmt, rfl, ?_, ?_⟩, by simp only [intOf]; omega⟩
            · refine ⟨?_, ?_, ?_, ?_⟩ <;> go_simp
            · exact set2 HB10.out (Nat.le_refl _)
        · have hm0 : m = R.length := by omega
          rw [hm0, amongQ_all Ha.out] at hP8
          have hmi : ¬ (m : Int) < (R.length : Int) := by omega
          have hp' : (R.map fun a => qp (matchQ R a))[k]? = some (qp (matchQ R a)) := by rw [List.getElem?_map, Ha.out]; rfl
          obtain ⟨b2, o2, rfl, h3, h4⟩ := HP2.out.later (btr HB23.out hB) k _ hp'
          simp only [qp] at h3 h4
          obtain ⟨s1, s2, -, -⟩ := hP8
          have HBx := Sec.mk (btr HB23.out hB)
          clear hB hm0 hp'
          generalize (matchQ R a).num = MN at *
          generalize ((matchQ R a).den : Int) = MD at *
          go_wp2_with fail
          go_quiet (fail)
          go_wp2_with fail
          exact ⟨⟨k + 1, hlt, rfl, below_drewN HBx.out _⟩, by simp only [intOf]; omega⟩
    · have HW := Sec.mk (fun w' (h : Below w2.heap.size w2 w') => awake_true w' (HG.out.later (btr HB2.out h)))
      have hki : ¬ (k : Int) < (R.length : Int) := by omega
      have HB := Sec.mk hB
      clear hB
      go_wp2_with fail
      refine (HW.out _ HB.out).mono ?_
      rintro e x3 ⟨rfl, hx3⟩
      go_wp2_with fail
      go_ret
      exact ⟨rfl, btr HB2.out (btr HB.out hx3)⟩
end Go.Proofs.YtfajnggdlhbgnaaDoor
