/- The reference of chapter 20: fractions, results. -/
import Derived.Test.YtfajnggdlhbgnaaDoorMatF
namespace Go.Proofs.YtfajnggdlhbgnaaDoor
open Go.RowKit
set_option linter.unusedVariables false
set_option linter.unusedSimpArgs false

theorem gcd_mod (y x : Nat) : Nat.gcd x (y % x) = Nat.gcd y x := by
  rw [Nat.gcd_comm y x, Nat.gcd_rec x y, Nat.gcd_comm]

def RedRel (w : World) (G : Nat) (a b : Value) (wr : World) : Prop :=
  ∃ x y : Nat, x ≤ 1000000000000 ∧ y ≤ 1000000000000 ∧ Nat.gcd y x = G ∧ a = .int .i64 x ∧ b = .int .i64 y ∧ wr = w

set_option maxRecDepth 100000 in
set_option maxHeartbeats 1000000 in
theorem Reduced_any (a d : Nat) (w : World) (hn : a ≤ 1000000000000) (hd : 0 < d) (hd2 : d ≤ 1000000) :
    Calls Tryd.prog 42 #[.int .i64 a, .int .i64 d] w fun e w' => e = .returned (.agg #[.int .i64 (((a : Int) : Rat) / ((d : Int) : Rat)).num, .int .i64 (((a : Int) : Rat) / ((d : Int) : Rat)).den]) ∧ Below w.heap.size w w' := by
  obtain ⟨G, hG⟩ : ∃ G, G = Nat.gcd d a := ⟨_, rfl⟩
  have hG0 : 0 < G := by rw [hG]; exact Nat.gcd_pos_of_pos_left _ hd
  obtain ⟨A, hA⟩ : ∃ A, a = A * G := by
    obtain ⟨k, hk⟩ := Nat.gcd_dvd_right d a
    exact ⟨k, by rw [hG, Nat.mul_comm]; exact hk⟩
  obtain ⟨D, hD⟩ : ∃ D, d = D * G := by
    obtain ⟨k, hk⟩ := Nat.gcd_dvd_left d a
    exact ⟨k, by rw [hG, Nat.mul_comm]; exact hk⟩
  have hcop : Nat.gcd A D = 1 := by
    have : Nat.gcd D A * G = 1 * G := by rw [Nat.one_mul, ← Nat.gcd_mul_right, ← hD, ← hA]; exact hG.symm
    rw [Nat.gcd_comm]
    exact Nat.eq_of_mul_eq_mul_right hG0 this
  have hD0 : 0 < D := Nat.pos_of_ne_zero fun h => by rw [h] at hD; omega
  have hq := fits_of (A : Int) (D : Int) (by omega) (by simpa using hcop) (((a : Int) : Rat) / ((d : Int) : Rat)) (div_eq_div _ _ _ _ (by omega) (by omega) (by
    rw [hA, hD]; push_cast; rw [Int.mul_assoc, Int.mul_comm (G : Int) (D : Int)]))
  rw [hq.1, hq.2]
  have e1 : ((a : Int).tdiv (G : Int)) = (A : Int) := by rw [hA]; push_cast; exact Int.mul_tdiv_cancel _ (by omega)
  have e2 : ((d : Int).tdiv (G : Int)) = (D : Int) := by rw [hD]; push_cast; exact Int.mul_tdiv_cancel _ (by omega)
  have e3 : ((a : Int) / (G : Int)) = (A : Int) := by rw [hA]; push_cast; exact Int.mul_ediv_cancel _ (by omega)
  have e4 : ((d : Int) / (G : Int)) = (D : Int) := by rw [hD]; push_cast; exact Int.mul_ediv_cancel _ (by omega)
  have eg : ¬ ((G : Int) = 0) := by omega
  have bA : A ≤ a := by rw [hA]; exact Nat.le_mul_of_pos_right _ hG0
  have bD : D ≤ d := by rw [hD]; exact Nat.le_mul_of_pos_right _ hG0
  have HG := Sec.mk hG.symm
  clear hq hcop hA hD hG
  go_enter Tryd.func42, Tryd.ntmps42
  go_wp2_with fail
  simp only [show decide ((a : Int) < 0) = false by simp]
  go_loopw [5, 6] (fun u v wr => RedRel (w.alloc (.cells #[.int .i64 0, .int .i64 0] 46)) G u v wr) (fun u _ _ => (intOf u).toNat)
  case atStart => exact ⟨a, d, hn, by omega, HG.out, rfl, rfl, rfl⟩
  case round =>
    obtain ⟨x, y, hx, hy, hg, rfl, rfl, rfl⟩ := hrel
    by_cases h0 : x = 0
    · subst h0
      rw [Nat.gcd_zero_right] at hg
      subst hg
      clear HG hx hy
      have hwA : IntKind.i64.wrap (A : Int) = A := IntWalk.i64_in _ ⟨by omega, by omega⟩
      have hwD : IntKind.i64.wrap (D : Int) = D := IntWalk.i64_in _ ⟨by omega, by omega⟩
      clear hn hd2 bA bD e3 e4
      have eg' : ¬ y = 0 := by omega
      go_wp2_with fail
      go_region_held3 (fun _ => True) (trivial) (fail)
      all_goals go_wp2_with fail
      all_goals exact bodyPost_ret (v := .agg #[.int .i64 A, .int .i64 D]) (by simp [results, Tryd.results42, go_sem]) rfl ⟨rfl, ((Below.refl _ _).alloc (Nat.le_refl _) _).drew⟩
    · obtain ⟨r, hr⟩ : ∃ r, r = y % x := ⟨_, rfl⟩
      have hmod : r < x := by rw [hr]; exact Nat.mod_lt y (Nat.pos_of_ne_zero h0)
      have hm : ((y : Int) % (x : Int)) = (r : Int) := by rw [hr]; rfl
      have hm2 : ((y : Int).tmod (x : Int)) = (r : Int) := by rw [hr]; rfl
      have hx0 : ¬ ((x : Int) = 0) := by omega
      have HG2 : Sec (Nat.gcd x r = G) := ⟨by rw [hr, gcd_mod]; exact hg⟩
      have hr2 : (r : Int) ≤ 1000000000000 := by omega
      have hx2 : (x : Int) ≤ 1000000000000 := by omega
      have hy2 : (y : Int) ≤ 1000000000000 := by omega
      have HX := Sec.mk hx
      clear hg HG hx hy hr e1 e2 e3 e4 hn hd2 bA bD
      have hw1 : wrap64 (r : Int) = r := by first | (simp only [wrap64]; omega) | exact IntWalk.i64_in _ ⟨by omega, by omega⟩ | (show IntKind.i64.wrap (r : Int) = r; exact IntWalk.i64_in _ ⟨by omega, by omega⟩)
      go_wp2_with fail
      exact ⟨⟨r, x, by have := HX.out; omega, HX.out, HG2.out, rfl, rfl, rfl⟩, by simp only [intOf]; omega⟩

theorem partsB_of_ownR {w : World} {base : Nat} {v : Value} {r : List (Int × Int)} (h : w.ownsRow base 80 2 v r.length (partCells r)) :
    ∃ A c, v = .slice A r.length c ∧ Parts w A r ∧ (∀ b, A = some b → base ≤ b.block) := parts_of_own h
theorem infoRPart : (Tryd.prog.info? 80).map (fun i => (i.zero, i.size, i.bytes)) = some (some (.agg #[.int .i64 0, .int .i64 0]), 2, 16) := by kernel_rfl

def TheirsRel (w : World) (r : List (Int × Int)) (v i : Value) (wr : World) : Prop :=
  ∃ k : Nat, k ≤ r.length ∧ i = .int .i64 k ∧ wr.ownsRow w.heap.size 80 2 v (r.take k).length (partCells (r.take k)) ∧ Below w.heap.size w wr

set_option maxRecDepth 100000 in
set_option maxHeartbeats 1000000 in
theorem theirs_any (A : Option Addr) (c : Nat) (r : List (Int × Int)) (w : World) (hA : Parts w A r) (hl : r.length ≤ 1000) :
    Calls Tryd.prog 18 #[.slice A r.length c] w fun e w' => ∃ v, e = .returned v ∧ w'.ownsRow w.heap.size 80 2 v r.length (partCells r) ∧ Below w.heap.size w w' := by
  obtain ⟨i0, hi, hz0, hz1, hz2⟩ := info_parts infoRPart
  have HA := Sec.mk hA
  have HI := Sec.mk hi
  have Z0 := Sec.mk hz0
  have Z1 := Sec.mk hz1
  have Z2 := Sec.mk hz2
  clear hA hi hz0 hz1 hz2
  go_enter Tryd.func18, Tryd.ntmps18
  go_wp2_with fail
  go_loopw [3, 8] (fun v i wr => TheirsRel w r v i wr) (fun _ i _ => r.length - (intOf i).toNat)
  case atStart => exact ⟨0, Nat.zero_le _, rfl, World.ownsRow_nil _ _ _ _, Below.refl _ _⟩
  case round =>
    obtain ⟨k, hk, rfl, hown, hB⟩ := hrel
    by_cases hlt : k < r.length
    · obtain ⟨p, hp⟩ : ∃ p, r[k]? = some p := ⟨_, List.getElem?_eq_getElem hlt⟩
      obtain ⟨p1, p2⟩ := p
      obtain ⟨b, o, rfl, h1, h2⟩ := HA.out.later hB k _ hp
      simp only at h1 h2
      have HT : Sec (r.take (k + 1) = r.take k ++ [(p1, p2)]) := ⟨by
        obtain ⟨hk', e⟩ := List.getElem?_eq_some_iff.1 hp
        rw [List.take_succ_eq_append_getElem hk', e]⟩
      have hlen : (r.take k).length = k := by simp; omega
      have HO := Sec.mk hown
      have HL := Sec.mk hlen
      clear hp hown hlen
      go_wp2_with (at_builtin; refine wpList_append_own _ rfl _ _ 35 rfl w.heap.size 80 i0 _ 2 16 Tryd.underlying35 HI.out Z0.out Z1.out Z2.out rfl (by decide) _ _ _ rfl ((HO.out.alloc _).alloc _) ⟨wr.heap.size + 1, 0, none⟩ 1 1 [.int .i64 p1, .int .i64 p2] rfl rfl ?c1 ?c2 ?c3 ?c4 ?c5 ?_)
      case c1 => exact news2 _ (by simp)
      case c2 => intro u hu; simp at hu; rcases hu with rfl | rfl <;> rfl
      case c3 => rw [HL.out]; unfold maxLen; omega
      case c4 => rw [HL.out]; omega
      case c5 => have := hB.size; simp; omega
      intro v' w2 hown' hgrow _
      have hown2 : w2.ownsRow w.heap.size 80 2 v' (r.take (k + 1)).length (partCells (r.take (k + 1))) := by
        rw [show (r.take (k + 1)).length = min k r.length + 1 by simp; omega, HT.out, partCells_append]
        first | exact hown' | (rw [show min k r.length = k by omega]; exact hown') | (rw [show min k r.length = (r.take k).length by simp]; exact hown')
      have hB2 : Below w.heap.size w w2 := ((hB.alloc hB.size _).alloc (by have := hB.size; simp; omega) _).grown hgrow (by have := hB.size; simp; omega) (fun k hk => (HO.out.lt k hk).1)
      have HO2 := Sec.mk hown2
      clear hown' hgrow hown2
      go_wp2_with fail
      exact ⟨⟨k + 1, hlt, rfl, HO2.out, hB2⟩, by simp only [intOf]; omega⟩
    · have hk0 : k = r.length := by omega
      rw [hk0, List.take_length] at hown
      clear hk0
      have HO := Sec.mk hown
      clear hown
      go_wp2_with fail
      go_ret
      exact ⟨_, rfl, HO.out, hB⟩
end Go.Proofs.YtfajnggdlhbgnaaDoor
