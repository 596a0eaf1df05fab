/- Package match: lists of parts in memory; the loops over them. -/
import Derived.Test.YtojgjpegfkfnjaaDoorFracG
namespace Go.Proofs.YtojgjpegfkfnjaaDoor
open Go.RowKit
set_option linter.unusedVariables false
set_option linter.unusedSimpArgs false

/-- The address A is that of the parts r. -/
def Parts (w : World) (A : Option Addr) (r : List (Int × Int)) : Prop :=
  ∀ (i : Nat) (p : Int × Int), r[i]? = some p → ∃ b o : Nat, A = some ⟨b, o, none⟩ ∧ w.cell? ⟨b, o + i * 2, none⟩ = some (.int .i64 p.1) ∧ w.cell? ⟨b, o + i * 2 + 1, none⟩ = some (.int .i64 p.2)
theorem Parts.later {w w' : World} {A : Option Addr} {r : List (Int × Int)} (h : Parts w A r) (hb : Below w.heap.size w w') : Parts w' A r := fun i p hp =>
  let ⟨b, o, h1, h2, h3⟩ := h i p hp
  ⟨b, o, h1, cell_later hb h2, cell_later hb h3⟩

/-- A sum over the first k elements. -/
def sumTo {α : Type} (f : α → Int) (l : List α) (k : Nat) : Int := ((l.take k).map f).sum
theorem sumTo_zero {α : Type} (f : α → Int) (l : List α) : sumTo f l 0 = 0 := rfl
theorem sumTo_succ {α : Type} (f : α → Int) (l : List α) (k : Nat) (x : α) (h : l[k]? = some x) : sumTo f l (k + 1) = sumTo f l k + f x := by
  unfold sumTo
  obtain ⟨hk, rfl⟩ := List.getElem?_eq_some_iff.1 h
  rw [List.take_succ_eq_append_getElem hk, List.map_append, List.sum_append]
  simp
theorem sumTo_all {α : Type} (f : α → Int) (l : List α) : sumTo f l l.length = (l.map f).sum := by unfold sumTo; rw [List.take_length]

/-- What the loop of total knows behind k rounds. -/
def TotRel (w : World) (f : Int × Int → Int) (r : List (Int × Int)) (n i : Value) (wr : World) : Prop :=
  ∃ k : Nat, k ≤ r.length ∧ i = .int .i64 k ∧ n = .int .i64 (sumTo f r k) ∧ Below w.heap.size w wr

set_option maxHeartbeats 400000 in
theorem total_parts (k0 : Nat) (caps : Array Value) (f : Int × Int → Int) (A : Option Addr) (c : Nat) (r : List (Int × Int)) (w : World) (hr : Parts w A r) (hl : r.length ≤ 1000)
    (hcf : ∀ (args : Array Value) (w : World), (callFunc k0 args).run Tryd.prog w = .ok (.enter k0 args) w)
    (hf : ∀ (i : Nat) (p : Int × Int), r[i]? = some p → ∀ w', Below w.heap.size w w' → Calls Tryd.prog k0 (#[.agg #[.int .i64 p.1, .int .i64 p.2]] ++ caps) w' fun e w'' => e = .returned (.int .i64 (f p)) ∧ Below w'.heap.size w' w'')
    (hs : ∀ k, k ≤ r.length → -1000000000000 ≤ sumTo f r k ∧ sumTo f r k ≤ 1000000000000) :
    Calls Tryd.prog 53 #[.slice A r.length c, .func (.func k0) #[] caps] w fun e w' => e = .returned (.int .i64 (r.map f).sum) ∧ Below w.heap.size w w' := by
  have HF := Sec.mk hf
  have HS := Sec.mk hs
  have HR := Sec.mk hr
  clear hf hs hr
  go_enter Tryd.func53, Tryd.ntmps53
  go_wp2_with fail
  go_loopw [5, 10] (fun n i wr => TotRel w f r n i wr) (fun _ i _ => r.length - (intOf i).toNat)
  case atStart => exact ⟨0, Nat.zero_le _, rfl, rfl, Below.refl _ _⟩
  case round =>
    obtain ⟨k, hk, rfl, rfl, hB⟩ := hrel
    by_cases hlt : k < r.length
    · obtain ⟨p, hp⟩ : ∃ p, r[k]? = some p := ⟨_, List.getElem?_eq_getElem hlt⟩
      obtain ⟨b, o, rfl, h1, h2⟩ := HR.out.later hB k p hp
      have HK := Sec.mk (sumTo_succ f r k p hp)
      have hs1 := HS.out k hk
      have hs2 := HS.out (k + 1) hlt
      rw [HK.out] at hs2
      have HC := Sec.mk (HF.out k p hp (wr.alloc (.cells #[.int .i64 p.1, .int .i64 p.2] 47)) (hB.alloc hB.size _))
      clear hp
      generalize sumTo f r k = S at *
      generalize f p = fp at *
      go_wp2_with fail
      refine HC.out.mono ?_; rintro e w1 ⟨rfl, hb1⟩
      have hB1 : Below w.heap.size w w1 := (hB.alloc hB.size _).trans (hb1.mono (by have := hB.size; simp; omega))
      clear hb1
      go_wp2_with fail
      exact ⟨⟨k + 1, hlt, rfl, by rw [HK.out], hB1⟩, by simp only [intOf]; omega⟩
    · have hk0 : k = r.length := by omega
      have HE := Sec.mk (hk0 ▸ sumTo_all f r : sumTo f r k = (r.map f).sum)
      clear hk0
      go_wp2_with fail
      go_ret
      exact ⟨ret_i (by rw [← HE.out]), hB⟩

/-- The first element that is met, or -1. -/
def firstIx {α : Type} (p : α → Bool) (l : List α) : Int := if l.any p then (l.findIdx p : Int) else -1
theorem firstIx_geq {α : Type} (p : α → Bool) (l : List α) : decide (0 ≤ firstIx p l) = l.any p := by
  unfold firstIx
  by_cases h : l.any p = true
  · simp [h]
  · have h' : l.any p = false := by simpa using h
    simp [h']
theorem firstIx_at {α : Type} (p : α → Bool) (l : List α) (k : Nat) (x : α) (h : l[k]? = some x) (hx : p x = true) (hb : ∀ j y, j < k → l[j]? = some y → p y = false) : firstIx p l = k := by
  obtain ⟨hk, rfl⟩ := List.getElem?_eq_some_iff.1 h
  have ha : l.any p = true := List.any_eq_true.2 ⟨l[k], List.getElem_mem hk, hx⟩
  unfold firstIx
  rw [if_pos ha]
  have : l.findIdx p = k := by
    rw [List.findIdx_eq hk]
    exact ⟨hx, fun j hj => by simpa using hb j l[j] hj (List.getElem?_eq_getElem _)⟩
  rw [this]
theorem firstIx_none {α : Type} (p : α → Bool) (l : List α) (hb : ∀ j y, j < l.length → l[j]? = some y → p y = false) : firstIx p l = -1 := by
  have ha : l.any p = false := by
    rw [List.any_eq_false]
    intro x hx
    obtain ⟨j, hj, rfl⟩ := List.getElem_of_mem hx
    simpa using hb j _ hj (List.getElem?_eq_getElem hj)
  unfold firstIx
  rw [ha]; rfl

def IxRel {α : Type} (w : World) (p : α → Bool) (l : List α) (i : Value) (wr : World) : Prop :=
  ∃ k : Nat, k ≤ l.length ∧ i = .int .i64 k ∧ Sec (∀ j y, j < k → l[j]? = some y → p y = false) ∧ Below w.heap.size w wr

set_option maxHeartbeats 400000 in
theorem index_parts (k0 : Nat) (caps : Array Value) (f : Int × Int → Bool) (A : Option Addr) (c : Nat) (r : List (Int × Int)) (w : World) (hr : Parts w A r) (hl : r.length ≤ 140737488351232)
    (hcf : ∀ (args : Array Value) (w : World), (callFunc k0 args).run Tryd.prog w = .ok (.enter k0 args) w)
    (hf : ∀ (i : Nat) (p : Int × Int), r[i]? = some p → ∀ w', Below w.heap.size w w' → Calls Tryd.prog k0 (#[.agg #[.int .i64 p.1, .int .i64 p.2]] ++ caps) w' fun e w'' => e = .returned (.bool (f p)) ∧ Below w'.heap.size w' w'') :
    Calls Tryd.prog 84 #[.slice A r.length c, .func (.func k0) #[] caps] w fun e w' => e = .returned (.int .i64 (firstIx f r)) ∧ Below w.heap.size w w' := by
  have HF := Sec.mk hf
  have HR := Sec.mk hr
  clear hf hr
  go_enter Tryd.func84, Tryd.ntmps84
  go_wp2_with fail
  go_loopw [8] (fun i wr => IxRel w f r i wr) (fun i _ => r.length - (intOf i).toNat)
  case atStart => exact ⟨0, Nat.zero_le _, rfl, ⟨fun j y hj => by omega⟩, Below.refl _ _⟩
  case round =>
    obtain ⟨k, hk, rfl, hpre, hB⟩ := hrel
    by_cases hlt : k < r.length
    · obtain ⟨p, hp⟩ : ∃ p, r[k]? = some p := ⟨_, List.getElem?_eq_getElem hlt⟩
      obtain ⟨b, o, rfl, h1, h2⟩ := HR.out.later hB k p hp
      have HC := Sec.mk (HF.out k p hp wr hB)
      have HP := Sec.mk hp
      clear hp
      have hkk : (k : Int) < (r.length : Int) := by omega
      go_wp2_with fail
      refine HC.out.mono ?_; rintro e w1 ⟨rfl, hb1⟩
      have hB1 : Below w.heap.size w w1 := hB.trans (hb1.mono hB.size)
      clear hb1
      cases hfp : f p
      · have HFP := Sec.mk hfp
        clear hfp
        go_wp2_with fail
        refine ⟨⟨k + 1, hlt, rfl, ⟨fun j y hj hy => ?_⟩, hB1⟩, by simp only [intOf]; omega⟩
        rcases Nat.lt_or_ge j k with h | h
        · exact hpre.out j y h hy
        · obtain rfl : j = k := by omega
          rw [HP.out] at hy; cases hy; exact HFP.out
      · have HFP := Sec.mk hfp
        clear hfp
        go_wp2_with fail
        go_ret
        exact ⟨ret_i (firstIx_at f r k p HP.out HFP.out hpre.out).symm, hB1⟩
    · have hk0 : k = r.length := by omega
      have HE := Sec.mk (firstIx_none f r (hk0 ▸ hpre.out))
      clear hk0
      go_wp2_with fail
      go_ret
      exact ⟨ret_i HE.out.symm, hB⟩

set_option maxHeartbeats 400000 in
theorem contains_parts (k0 : Nat) (caps : Array Value) (f : Int × Int → Bool) (A : Option Addr) (c : Nat) (r : List (Int × Int)) (w : World) (hr : Parts w A r) (hl : r.length ≤ 140737488351232)
    (hcf : ∀ (args : Array Value) (w : World), (callFunc k0 args).run Tryd.prog w = .ok (.enter k0 args) w)
    (hf : ∀ (i : Nat) (p : Int × Int), r[i]? = some p → ∀ w', Below w.heap.size w w' → Calls Tryd.prog k0 (#[.agg #[.int .i64 p.1, .int .i64 p.2]] ++ caps) w' fun e w'' => e = .returned (.bool (f p)) ∧ Below w'.heap.size w' w'') :
    Calls Tryd.prog 51 #[.slice A r.length c, .func (.func k0) #[] caps] w fun e w' => e = .returned (.bool (r.any f)) ∧ Below w.heap.size w w' := by
  have HI := Sec.mk (index_parts k0 caps f A c r w hr hl hcf hf)
  have HG := Sec.mk (firstIx_geq f r)
  clear hf hr hcf
  generalize firstIx f r = ix at *
  go_enter Tryd.func51, Tryd.ntmps51
  go_wp2_with fail
  refine HI.out.mono ?_; rintro e w1 ⟨rfl, hb1⟩
  go_wp2_with fail
  go_ret
  exact ⟨ret_b HG.out, hb1⟩

/-! ### Right -/
def badPart (p : Int × Int) : Bool := decide (p.2 < 1) || decide (100 < p.2) || decide (p.1 < -10000) || decide (10000 < p.1)

set_option maxHeartbeats 400000 in
theorem right1 (a b : Int) (w : World) :
    Calls Tryd.prog 52 #[.agg #[.int .i64 a, .int .i64 b]] w fun e w' => e = .returned (.bool (badPart (a, b))) ∧ Below w.heap.size w w' := by
  by_cases h1 : b < 1
  · go_enter Tryd.func52, Tryd.ntmps52
    go_wp2
    go_ret
    exact ⟨ret_b (by simp [badPart, h1]), (Below.refl _ _).alloc (Nat.le_refl _) _⟩
  by_cases h2 : 100 < b
  · go_enter Tryd.func52, Tryd.ntmps52
    go_wp2
    go_ret
    exact ⟨ret_b (by simp [badPart, h2]), (Below.refl _ _).alloc (Nat.le_refl _) _⟩
  by_cases h3 : a < -10000
  · go_enter Tryd.func52, Tryd.ntmps52
    go_wp2
    go_ret
    exact ⟨ret_b (by simp [badPart, h3]), (Below.refl _ _).alloc (Nat.le_refl _) _⟩
  go_enter Tryd.func52, Tryd.ntmps52
  go_wp2
  go_ret
  exact ⟨ret_b (by rw [Bool.eq_iff_iff]; simp [badPart]; omega), (Below.refl _ _).alloc (Nat.le_refl _) _⟩

set_option maxHeartbeats 400000 in
theorem right2 (a b : Int) (w : World) :
    Calls Tryd.prog 54 #[.agg #[.int .i64 a, .int .i64 b]] w fun e w' => e = .returned (.int .i64 b) ∧ Below w.heap.size w w' := by
  go_enter Tryd.func54, Tryd.ntmps54
  go_wp2
  go_ret
  exact ⟨rfl, (Below.refl _ _).alloc (Nat.le_refl _) _⟩

/-- A result is right. -/
def rightR (r : List (Int × Int)) : Bool := !(decide (r.length = 0) || decide (4 < r.length) || r.any badPart) && decide ((r.map (·.2)).sum = 100)

theorem weights_bound (r : List (Int × Int)) (h : r.any badPart = false) (hl : r.length ≤ 4) (k : Nat) (hk : k ≤ r.length) : -1000000000000 ≤ sumTo (·.2) r k ∧ sumTo (·.2) r k ≤ 1000000000000 := by
  have key : ∀ k, k ≤ r.length → 0 ≤ sumTo (·.2) r k ∧ sumTo (·.2) r k ≤ 100 * k := by
    intro k
    induction k with
    | zero => intro _; simp [sumTo]
    | succ k ih =>
      intro hk
      have hx : r[k]? = some r[k] := List.getElem?_eq_getElem hk
      rw [sumTo_succ (·.2) r k r[k] hx]
      have hb := List.any_eq_false.1 h r[k] (List.getElem_mem hk)
      simp only [badPart, Bool.or_eq_true, decide_eq_true_eq, not_or] at hb
      have := ih (by omega)
      omega
  have := key k hk
  omega

theorem cf46 : ∀ (args : Array Value) (w : World), (callFunc 52 args).run Tryd.prog w = .ok (.enter 52 args) w := fun _ _ => by kernel_rfl
theorem cf48 : ∀ (args : Array Value) (w : World), (callFunc 54 args).run Tryd.prog w = .ok (.enter 54 args) w := fun _ _ => by kernel_rfl

set_option maxHeartbeats 400000 in
theorem right_any_len (A : Option Addr) (c : Nat) (r : List (Int × Int)) (w : World) (hr : Parts w A r) (hl : r.length ≤ 140737488351232) :
    Calls Tryd.prog 28 #[.slice A r.length c] w fun e w' => e = .returned (.bool (rightR r)) ∧ Below w.heap.size w w' := by
  have hlI : (r.length : Int) ≤ 140737488351232 := by omega
  by_cases h0 : r.length = 0
  · have e0 : ((r.length : Int) == 0) = true := by simp [h0]
    have hR : Sec (rightR r = false) := ⟨by simp [rightR, h0]⟩
    clear h0
    go_enter Tryd.func28, Tryd.ntmps28
    go_wp2_with fail
    go_ret
    exact ⟨ret_b hR.out.symm, Below.refl _ _⟩
  have e0 : ((r.length : Int) == 0) = false := beq_eq_false_iff_ne.2 (by omega)
  by_cases h4 : 4 < r.length
  · have h4' : (4 : Int) < (r.length : Int) := by omega
    have hR : Sec (rightR r = false) := ⟨by simp [rightR, h4]⟩
    clear h0
    go_enter Tryd.func28, Tryd.ntmps28
    go_wp2_with fail
    go_ret
    exact ⟨ret_b hR.out.symm, Below.refl _ _⟩
  have h4' : ¬ (4 : Int) < (r.length : Int) := by omega
  have HC := Sec.mk (contains_parts 52 #[] badPart A c r w hr hl cf46 (fun i p _ w' _ => right1 p.1 p.2 w'))
  cases hb : r.any badPart
  · have HT := Sec.mk (fun (w' : World) (hB : Below w.heap.size w w') => total_parts 54 #[] (·.2) A c r w' (hr.later hB) (by omega) cf48 (fun i p _ w' _ => right2 p.1 p.2 w') (weights_bound r hb (by omega)))
    have hR : Sec (rightR r = decide ((r.map (·.2)).sum = 100)) := ⟨by simp [rightR, hb, h0, h4]⟩
    rw [hb] at HC
    clear hb h0 h4
    generalize (r.map (·.2)).sum = S at *
    go_enter Tryd.func28, Tryd.ntmps28
    go_wp2_with fail
    refine HC.out.mono ?_; rintro e w1 ⟨rfl, hb1⟩
    go_wp2_with fail
    refine (HT.out _ hb1).mono ?_; rintro e w2 ⟨rfl, hb2⟩
    go_wp2_with fail
    go_ret
    exact ⟨ret_b (by rw [hR.out, Bool.eq_iff_iff]; simp), hb1.trans (hb2.mono hb1.size)⟩
  · have hR : Sec (rightR r = false) := ⟨by simp [rightR, hb]⟩
    rw [hb] at HC
    clear hb h0 h4
    go_enter Tryd.func28, Tryd.ntmps28
    go_wp2_with fail
    refine HC.out.mono ?_; rintro e w1 ⟨rfl, hb1⟩
    go_wp2_with fail
    go_ret
    exact ⟨ret_b hR.out.symm, hb1⟩
end Go.Proofs.YtojgjpegfkfnjaaDoor
