/- MatchSplit: the row and the card. -/
import Derived.Test.YtkocgknidpmcmaaDoorSplitB
import Derived.Test.YtkocgknidpmcmaaDoorRowKit
import Derived.Test.YtkocgknidpmcmaaDoorCards
namespace Go.Proofs.YtkocgknidpmcmaaDoor
open Go.ChangeShapes Go.WideShapes Go.ChangeAt Go.RowKit
set_option linter.unusedVariables false
set_option linter.unusedSimpArgs false

theorem cells16 : Tryd.prog.cellsOf 82 = 1 := by kernel_rfl
theorem cells8 : Tryd.prog.cellsOf 5 = 1 := by kernel_rfl
theorem cellsS16 : Tryd.prog.cellsOf 83 = 1 := by kernel_rfl
theorem cellsSmall : Tryd.prog.cellsOf 85 = 3 := by kernel_rfl

theorem spot_none {w : World} {a : Addr} {v : Value} (h : w.cell? (a.add 0) = some v) : a.spot = none := by
  unfold World.cell? at h
  simp only [Addr.add, if_true] at h
  split at h
  · split at h
    · cases h
    · rename_i hs
      cases hsp : a.spot with
      | none => rfl
      | some x => rw [hsp] at hs; simp at hs
  · cases h
theorem add_none (b o i : Nat) : (⟨b, o, none⟩ : Addr).add i = ⟨b, o + i, none⟩ := by
  unfold Addr.add
  split
  · rename_i h; subst h; rfl
  · rfl

set_option maxRecDepth 100000 in
theorem open_small {H : Type} {enc : TypeId × Value → H} {W : World} {sp : Nat → Bool} {held : Bool} {b0 base0 : Nat} {r : Reach} {v : Value} {d : DataW H} {ps : List MemPlace}
    (hval : Value.okWide Tryd.prog W r b0 85 v) (hd : DataW.Trod enc Tryd.prog W base0 sp held 85 v d ps) :
    ∃ p wt A c l, v = .agg #[.int .i16 p, .int .u8 wt, .slice A (List.length l) c] ∧ SmallOk W p wt A c l := by
  obtain ⟨cs, rfl, hsz⟩ := okWide_struct Tryd.underlying85 hval
  rw [cellsSmall] at hsz
  obtain ⟨fuel, hf⟩ := hd
  obtain ⟨c0, c1, c2, hl⟩ := list3 (l := cs.toList) (by simpa using hsz)
  have hcs : cs = #[c0, c1, c2] := by
    rw [← Array.toArray_toList (xs := cs), hl]
  subst hcs
  have hf' : DataW.trod enc Tryd.prog W base0 sp held fuel 85 [c0, c1, c2] = some (d, ps) := by simpa [Value.cells] using hf
  obtain ⟨y0, y1, y2, n, _, _, h0, h1, h2⟩ := Go.Deep.trod_struct3 Tryd.underlying85 hf'
  simp only [cells16, cells8, cellsS16, List.drop_zero, List.drop_succ_cons, List.take_succ_cons, List.take_zero] at h0 h1 h2
  obtain ⟨p, ea, rfl, wp⟩ := DataW.trod_int Tryd.underlying82 h0
  obtain ⟨wt, eb, rfl, ww⟩ := DataW.trod_int Tryd.underlying5 h1
  simp only [List.cons.injEq, and_true] at ea eb
  subst ea; subst eb
  rcases open_ints Tryd.underlying83 Tryd.underlying82 cells16 h2 with ⟨hc, _⟩ | ⟨a, len, cap, zs, hc, _, hlc, hcm, hzl, _, hcell, hwf⟩
  · simp only [List.cons.injEq, and_true] at hc
    subst hc
    exact ⟨p, wt, none, 0, [], rfl, bounds16 wp, bounds8 ww, fun i x hx => by simp at hx, fun x hx => by simp at hx, Nat.le_refl _, Nat.zero_le _⟩
  · simp only [List.cons.injEq, and_true] at hc
    subst hc
    have hlz : len ≤ zs.length := by rw [hzl]; split <;> omega
    refine ⟨p, wt, some a, cap, zs.take len, ?_, bounds16 wp, bounds8 ww, ?_, ?_, ?_, ?_⟩
    · rw [List.length_take, Nat.min_eq_left hlz]
    · intro i x hx
      have hi : i < len := by
        rcases Nat.lt_or_ge i len with h | h
        · exact h
        · rw [List.getElem?_eq_none (by simp; omega)] at hx; cases hx
      rw [List.getElem?_take_of_lt hi] at hx
      have hs := spot_none (hcell 0 (by omega))
      obtain ⟨b, o, s⟩ := a
      simp only at hs
      subst hs
      refine ⟨b, o, rfl, ?_⟩
      have hk := hcell i (by omega)
      rw [List.getD_eq_getElem?_getD, hx] at hk
      rw [← add_none]; exact hk
    · exact fun x hx => bounds16 (hwf x (List.mem_of_mem_take hx))
    · rw [List.length_take, Nat.min_eq_left hlz]; exact hlc
    · have : maxLen = 9223372036854775807 := by decide
      omega

end Go.Proofs.YtkocgknidpmcmaaDoor
