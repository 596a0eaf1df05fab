/- Package match: the results of both sides; lists that the code itself makes. -/
import Derived.Test.YtojgjpegfkfnjaaDoorMatB
namespace Go.Proofs.YtojgjpegfkfnjaaDoor
open Go.RowKit
set_option linter.unusedVariables false
set_option linter.unusedSimpArgs false

/-- The cells of parts. -/
def partCells (r : List (Int × Int)) : List Value := r.flatMap fun p => [.int .i64 p.1, .int .i64 p.2]
theorem partCells_append (r s : List (Int × Int)) : partCells (r ++ s) = partCells r ++ partCells s := by simp [partCells]
theorem partCells_one (a b : Int) : partCells [(a, b)] = [.int .i64 a, .int .i64 b] := rfl
theorem partCells_at (r : List (Int × Int)) (i : Nat) (p : Int × Int) (h : r[i]? = some p) : (partCells r)[i * 2]? = some (.int .i64 p.1) ∧ (partCells r)[i * 2 + 1]? = some (.int .i64 p.2) := by
  induction r generalizing i with
  | nil => simp at h
  | cons x r ih =>
    have e : partCells (x :: r) = .int .i64 x.1 :: .int .i64 x.2 :: partCells r := by simp [partCells]
    rw [e]
    cases i with
    | zero => simp at h; subst h; exact ⟨rfl, rfl⟩
    | succ i =>
      have h' : r[i]? = some p := by simpa using h
      obtain ⟨h1, h2⟩ := ih i h'
      rw [show (i + 1) * 2 = i * 2 + 1 + 1 by omega]
      exact ⟨by simpa using h1, by simpa using h2⟩

theorem own_below {w w' : World} {base : Nat} {e : TypeId} {size n : Nat} {v : Value} {xs : List Value} (h : w.ownsRow base e size v n xs) (hb : Below w.heap.size w w') : w'.ownsRow base e size v n xs :=
  h.kept (w' := w') (row := none) ⟨hb.os, hb.tape, hb.output, hb.size, fun i hi _ => hb.block i hi⟩ (by cases hv : v.ownBlock <;> simp)

/-- A row of the call's own holds these parts. -/
theorem parts_of_own {w : World} {base : Nat} {e : TypeId} {v : Value} {r : List (Int × Int)} (h : w.ownsRow base e 2 v r.length (partCells r)) :
    ∃ A c, v = .slice A r.length c ∧ Parts w A r ∧ (∀ b, A = some b → base ≤ b.block) := by
  rcases h.2 with ⟨rfl, h0⟩ | ⟨g, cap, cur, hv, hb, _⟩
  · rw [h0]
    exact ⟨none, 0, rfl, fun i p hp => by
      have : r = [] := List.eq_nil_of_length_eq_zero h0
      subst this; simp at hp, fun b hb => by cases hb⟩
  · refine ⟨_, _, hv, fun i p hp => ⟨g, 0, rfl, ?_⟩, fun b hb' => by cases hb'; exact hb⟩
    obtain ⟨h1, h2⟩ := partCells_at r i p hp
    have hc := h.cells (g := g) (by rw [hv]; rfl)
    have k1 := hc _ _ h1
    have k2 := hc _ _ h2
    simp only [Addr.add] at k1 k2
    refine ⟨?_, ?_⟩
    · by_cases hz : i * 2 = 0
      · rw [hz] at k1; simpa [hz] using k1
      · simpa [hz] using k1
    · simpa using k2

theorem infoPart : (Tryd.prog.info? 47).map (fun i => (i.zero, i.size, i.bytes)) = some (some (.agg #[.int .i64 0, .int .i64 0]), 2, 16) := by kernel_rfl

def turnP (p : Int × Int) : Int × Int := (-p.1, p.2)
def TurnRel (w : World) (r : List (Int × Int)) (v i : Value) (wr : World) : Prop :=
  ∃ k : Nat, k ≤ r.length ∧ i = .int .i64 k ∧ wr.ownsRow w.heap.size 47 2 v ((r.take k).map turnP).length (partCells ((r.take k).map turnP)) ∧ Below w.heap.size w wr

theorem news2 {w : World} {x y : Value} {T : Nat} (g : Nat) (hg : g = w.heap.size) : ∀ j u, [x, y][j]? = some u → (w.alloc (.cells #[x, y] T)).cell? ((⟨g, 0, none⟩ : Addr).add j) = some u := by
  intro j u hj
  subst hg
  match j, hj with
  | 0, hj => simp at hj; subst hj; simp [Addr.add]
  | 1, hj => simp at hj; subst hj; simp [Addr.add]

set_option maxRecDepth 100000 in
set_option maxHeartbeats 1000000 in
theorem Turn_right (A : Option Addr) (c : Nat) (r : List (Int × Int)) (w : World) (hA : Parts w A r) (hr : rightR r = true) :
    Calls Tryd.prog 29 #[.slice A r.length c] w fun e w' => ∃ v, e = .returned (.tuple #[v, .int .i64 0]) ∧ w'.ownsRow w.heap.size 47 2 v (r.map turnP).length (partCells (r.map turnP)) ∧ Below w.heap.size w w' := by
  obtain ⟨i0, hi, hz0, hz1, hz2⟩ := info_parts infoPart
  have wr := right_weights hr
  have hl := wr.1
  have hb : ∀ p ∈ r, -10000 ≤ p.1 ∧ p.1 ≤ 10000 := by
    intro p hp
    unfold rightR at hr
    simp only [Bool.and_eq_true, Bool.not_eq_true', Bool.or_eq_false_iff, decide_eq_false_iff_not, decide_eq_true_eq] at hr
    have := List.any_eq_false.1 hr.1.2 p hp
    simp only [badPart, Bool.or_eq_true, decide_eq_true_eq, not_or] at this
    omega
  have HB := Sec.mk hb
  have HA := Sec.mk hA
  have HR := Sec.mk (right_any_len A c r w hA (by omega))
  rw [hr] at HR
  have HI := Sec.mk hi
  have Z0 := Sec.mk hz0
  have Z1 := Sec.mk hz1
  have Z2 := Sec.mk hz2
  clear wr hb hA hr hi hz0 hz1 hz2
  go_enter Tryd.func29, Tryd.ntmps29
  go_wp2_with fail
  refine HR.out.mono ?_; rintro e w1 ⟨rfl, hb1⟩
  go_wp2_with fail
  go_loopw [4, 12] (fun v i wr => TurnRel w r v i wr) (fun _ i _ => r.length - (intOf i).toNat)
  case atStart => exact ⟨0, Nat.zero_le _, rfl, World.ownsRow_nil _ _ _ _, hb1⟩
  case round =>
    obtain ⟨k, hk, rfl, hown, hB⟩ := hrel
    by_cases hlt : k < r.length
    · obtain ⟨p, hp⟩ : ∃ p, r[k]? = some p := ⟨_, List.getElem?_eq_getElem hlt⟩
      obtain ⟨b, o, rfl, h1, h2⟩ := HA.out.later hB k p hp
      have hpb := HB.out p (List.mem_of_getElem? hp)
      have HT : Sec ((r.take (k + 1)).map turnP = (r.take k).map turnP ++ [turnP p]) := ⟨by
        obtain ⟨hk', rfl⟩ := List.getElem?_eq_some_iff.1 hp
        rw [List.take_succ_eq_append_getElem hk', List.map_append]; rfl⟩
      have hlen : ((r.take k).map turnP).length = k := by simp; omega
      have HP := Sec.mk hp
      have HO := Sec.mk hown
      have HL := Sec.mk hlen
      clear hp hown hlen
      go_wp2_with (at_builtin; refine wpList_append_own _ rfl _ _ 31 rfl w.heap.size 47 i0 _ 2 16 Tryd.underlying31 HI.out Z0.out Z1.out Z2.out rfl (by decide) _ _ _ rfl ((HO.out.alloc _).alloc _) ⟨wr.heap.size + 1, 0, none⟩ 1 1 [.int .i64 (-p.1), .int .i64 p.2] rfl rfl ?c1 ?c2 ?c3 ?c4 ?c5 ?_)
      case c1 => exact news2 _ (by simp)
      case c2 => intro u hu; simp at hu; rcases hu with rfl | rfl <;> rfl
      case c3 => rw [HL.out]; unfold maxLen; omega
      case c4 => rw [HL.out]; omega
      case c5 => have := hB.size; simp; omega
      intro v' w2 hown' hgrow _
      have hown2 : w2.ownsRow w.heap.size 47 2 v' ((r.take (k + 1)).map turnP).length (partCells ((r.take (k + 1)).map turnP)) := by
        rw [show ((r.take (k + 1)).map turnP).length = k + 1 by simp; omega, HT.out, partCells_append]
        rw [← List.map_take] at hown'
        exact hown'
      have hB2 : Below w.heap.size w w2 := ((hB.alloc hB.size _).alloc (by have := hB.size; simp; omega) _).grown hgrow (by have := hB.size; simp; omega) (fun k hk => (HO.out.lt k hk).1)
      have HO2 := Sec.mk hown2
      clear hown' hgrow hown2
      go_wp2_with fail
      exact ⟨⟨k + 1, hlt, rfl, HO2.out, hB2⟩, by simp only [intOf]; omega⟩
    · have hk0 : k = r.length := by omega
      rw [hk0, List.take_length] at hown
      clear hk0
      have HO := Sec.mk hown
      clear hown
      go_wp2_with fail
      go_ret2
      exact ⟨_, rfl, HO.out, hB⟩

set_option maxHeartbeats 1000000 in
theorem Turn_wrong (A : Option Addr) (c : Nat) (r : List (Int × Int)) (w : World) (hA : Parts w A r) (hl : r.length ≤ 140737488351232) (hr : rightR r = false) :
    Calls Tryd.prog 29 #[.slice A r.length c] w fun e w' => e = .returned (.tuple #[.slice none 0 0, .int .i64 2]) ∧ Below w.heap.size w w' := by
  have HR := Sec.mk (right_any_len A c r w hA hl)
  rw [hr] at HR
  clear hr hA
  go_enter Tryd.func29, Tryd.ntmps29
  go_wp2_with fail
  refine HR.out.mono ?_; rintro e w1 ⟨rfl, hb1⟩
  go_wp2_with fail
  go_ret2
  exact ⟨rfl, hb1⟩

/-! ### Points -/
/-- The address A is that of results: each with its parts. -/
def Ress (w : World) (A : Option Addr) (l : List (List (Int × Int))) : Prop :=
  ∀ (i : Nat) (r : List (Int × Int)), l[i]? = some r → ∃ b o : Nat, A = some ⟨b, o, none⟩ ∧ ∃ Ai ci, w.cell? ⟨b, o + i, none⟩ = some (.slice Ai r.length ci) ∧ Parts w Ai r
theorem Ress.later {w w' : World} {A : Option Addr} {l : List (List (Int × Int))} (h : Ress w A l) (hb : Below w.heap.size w w') : Ress w' A l := fun i r hr =>
  let ⟨b, o, h1, Ai, ci, h2, h3⟩ := h i r hr
  ⟨b, o, h1, Ai, ci, cell_later hb h2, h3.later hb⟩

end Go.Proofs.YtojgjpegfkfnjaaDoor
