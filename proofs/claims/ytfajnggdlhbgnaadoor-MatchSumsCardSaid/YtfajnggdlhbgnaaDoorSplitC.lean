/- MatchSplit: the row and the card. -/
import Derived.Test.YtfajnggdlhbgnaaDoorSplitB
import Derived.Test.YtfajnggdlhbgnaaDoorRowKit
import Derived.Test.YtfajnggdlhbgnaaDoorCards
namespace Go.Proofs.YtfajnggdlhbgnaaDoor
open Go.ChangeShapes Go.WideShapes Go.ChangeAt Go.RowKit
set_option linter.unusedVariables false
set_option linter.unusedSimpArgs false

theorem cells16 : Tryd.prog.cellsOf 38 = 1 := by kernel_rfl
theorem cells8 : Tryd.prog.cellsOf 5 = 1 := by kernel_rfl
theorem cellsS16 : Tryd.prog.cellsOf 39 = 1 := by kernel_rfl
theorem cellsSmall : Tryd.prog.cellsOf 41 = 3 := by kernel_rfl

theorem spot_none {w : World} {a : Addr} {v : Value} (h : w.cell? (a.add 0) = some v) : a.spot = none := by
  unfold World.cell? at h
  simp only [Addr.add, if_true] at h
  split at h
  · split at h
    · cases h
    · rename_i hs
      cases hsp : a.spot with
      | none => rfl
      | some x => rw [hsp] at hs; simp at hs
  · cases h
theorem add_none (b o i : Nat) : (⟨b, o, none⟩ : Addr).add i = ⟨b, o + i, none⟩ := by
  unfold Addr.add
  split
  · rename_i h; subst h; rfl
  · rfl

set_option maxRecDepth 100000 in
theorem open_small {H : Type} {enc : TypeId × Value → H} {W : World} {sp : Nat → Bool} {held : Bool} {b0 base0 : Nat} {r : Reach} {v : Value} {d : DataW H} {ps : List MemPlace}
    (hval : Value.okWide Tryd.prog W r b0 41 v) (hd : DataW.Trod enc Tryd.prog W base0 sp held 41 v d ps) :
    ∃ p wt A c l, v = .agg #[.int .i16 p, .int .u8 wt, .slice A (List.length l) c] ∧ SmallOk W p wt A c l := by
  obtain ⟨cs, rfl, hsz⟩ := okWide_struct Tryd.underlying41 hval
  rw [cellsSmall] at hsz
  obtain ⟨fuel, hf⟩ := hd
  obtain ⟨c0, c1, c2, hl⟩ := list3 (l := cs.toList) (by simpa using hsz)
  have hcs : cs = #[c0, c1, c2] := by
    rw [← Array.toArray_toList (xs := cs), hl]
  subst hcs
  have hf' : DataW.trod enc Tryd.prog W base0 sp held fuel 41 [c0, c1, c2] = some (d, ps) := by simpa [Value.cells] using hf
  obtain ⟨y0, y1, y2, n, _, _, h0, h1, h2⟩ := Go.Deep.trod_struct3 Tryd.underlying41 hf'
  simp only [cells16, cells8, cellsS16, List.drop_zero, List.drop_succ_cons, List.take_succ_cons, List.take_zero] at h0 h1 h2
  obtain ⟨p, ea, rfl, wp⟩ := DataW.trod_int Tryd.underlying38 h0
  obtain ⟨wt, eb, rfl, ww⟩ := DataW.trod_int Tryd.underlying5 h1
  simp only [List.cons.injEq, and_true] at ea eb
  subst ea; subst eb
  rcases open_ints Tryd.underlying39 Tryd.underlying38 cells16 h2 with ⟨hc, _⟩ | ⟨a, len, cap, zs, hc, _, hlc, hcm, hzl, _, hcell, hwf⟩
  · simp only [List.cons.injEq, and_true] at hc
    subst hc
    exact ⟨p, wt, none, 0, [], rfl, bounds16 wp, bounds8 ww, fun i x hx => by simp at hx, fun x hx => by simp at hx, Nat.le_refl _, Nat.zero_le _⟩
  · simp only [List.cons.injEq, and_true] at hc
    subst hc
    have hlz : len ≤ zs.length := by rw [hzl]; split <;> omega
    refine ⟨p, wt, some a, cap, zs.take len, ?_, bounds16 wp, bounds8 ww, ?_, ?_, ?_, ?_⟩
    · rw [List.length_take, Nat.min_eq_left hlz]
    · intro i x hx
      have hi : i < len := by
        rcases Nat.lt_or_ge i len with h | h
        · exact h
        · rw [List.getElem?_eq_none (by simp; omega)] at hx; cases hx
      rw [List.getElem?_take_of_lt hi] at hx
      have hs := spot_none (hcell 0 (by omega))
      obtain ⟨b, o, s⟩ := a
      simp only at hs
      subst hs
      refine ⟨b, o, rfl, ?_⟩
      have hk := hcell i (by omega)
      rw [List.getD_eq_getElem?_getD, hx] at hk
      rw [← add_none]; exact hk
    · exact fun x hx => bounds16 (hwf x (List.mem_of_mem_take hx))
    · rw [List.length_take, Nat.min_eq_left hlz]; exact hlc
    · have : maxLen = 9223372036854775807 := by decide
      omega

set_option maxRecDepth 100000 in
theorem matchSplit_lifted (os : Os) (started : os.Started) (H : Type) (enc : TypeId × Value → H) :
    ReturnsInHanded {} Tryd.checked os 4 .any (fun w args => (Rows.matchSplitSpec.pre enc Tryd.prog Tryd.f4 [] false w args ∧ laidMetH Tryd.prog theLaid w) ∧ sizedMet enc Tryd.prog Tryd.f4 (OpenSpec.ofChange Rows.matchSplitSpec) false w args)
      (Rows.matchSplitSpec.post enc Tryd.prog Tryd.f4 false true false false) := by
  refine returnsInHanded_of_change_and (C := Tryd.checked) (X := fun w _ => laidMetH Tryd.prog theLaid w) (fun _ _ _ hh h => h.of_heap hh) ownGodebug started (by kernel_rfl) Tryd.func4
    (ChangeSpec.witness_at (enc := enc) (C := Tryd.checked) (os := os) (X := fun w _ => laidMetH Tryd.prog theLaid w) false (laidWorld os) #[.agg #[.int .i16 0, .int .u8 0, .slice none 0 0], .agg #[.int .i16 0, .int .u8 0, .slice none 0 0], .int .u8 0, .int .u8 0] 8 rfl (by kernel_rfl) (by kernel_rfl) (by kernel_rfl) (by kernel_rfl) (by kernel_rfl) (laidWorld_met os _)) ?_
  intro W base args ds gs before hval0 hW _ _ hL _
  have hval : ∀ (j : Nat) t v, Tryd.f4.params[j]? = some t → args[j]? = some v → Value.okWide Tryd.prog W .any base t v := hval0
  have hW' := hW
  obtain ⟨p, q, hA0, hV, rfl, hfz, hnd⟩ := hW
  have hA : DataW.TrodAll enc Tryd.prog W 0 (fun _ => true) true Tryd.f4.params.toList args.toList ds p := hA0
  rw [Tryd.params4] at hA hval
  obtain ⟨v0, v1, v2, v3, d0, d1, d2, d3, p0, p1, p2, p3, rfl, rfl, rfl, h0, h1, h2, h3⟩ := trodAll_four hA
  obtain ⟨rfl, rfl⟩ := trodVars_none hV
  obtain ⟨which, rfl, rfl, rfl, ww⟩ := open_int Tryd.underlying5 (hval 2 5 v2 rfl rfl) h2
  obtain ⟨ato, rfl, rfl, rfl, wa⟩ := open_int Tryd.underlying5 (hval 3 5 v3 rfl rfl) h3
  obtain ⟨q1, t1, A1, c1, l1, rfl, s1⟩ := open_small (hval 0 41 v0 rfl rfl) h0
  obtain ⟨q2, t2, A2, c2, l2, rfl, s2⟩ := open_small (hval 1 41 v1 rfl rfl) h1
  have hlt : ∀ x ∈ p0 ++ p1, x.block < W.heap.size := fun x hx => hW'.lt x (by simp only [List.append_nil]; exact hx)
  refine (MatchSplit_any q1 t1 A1 c1 l1 q2 t2 A2 c2 l2 which ato W s1 s2 (bounds8 ww) (bounds8 wa) (gets_of_laid hL)).mono fun e W' ⟨he, hb⟩ => ?_
  subst he
  have e1 : Rows.matchSplitSpec.fn H ([d0, d1, .lit (.int .u8 which), .lit (.int .u8 ato)] ++ []) = { results := [.lit (.bool true)], args := [d0, d1, .lit (.int .u8 which), .lit (.int .u8 ato)] } := by simp [Rows.matchSplitSpec]
  refine ⟨_, rfl, _, _, _, [], p0 ++ (p1 ++ ([] ++ [])), [], hW', ?_, ?_, ?_, hb.frame _, fun h => by cases h⟩
  · rw [e1]; exact trodAll_mk1 (shut_bool Tryd.underlying4 true)
  · rw [e1]
    exact trodAll_mk4 (Below.trod laidOutAll (by kernel_rfl) (of_decide_eq_true (by kernel_rfl)) h0 hb (fun x hx => hlt x (by simp [hx]))) (Below.trod laidOutAll (by kernel_rfl) (of_decide_eq_true (by kernel_rfl)) h1 hb (fun x hx => hlt x (by simp [hx]))) (shut_int Tryd.underlying5 ww) (shut_int Tryd.underlying5 wa)
  · rw [e1]; rfl

theorem matchSplit_holds : Rows.MatchSplitSaid :=
  OpenClaim.holds_of_wide 4 Tryd.f4 rfl rfl rfl rfl rfl rfl rfl ⟨rfl, rfl, rfl, rfl, rfl⟩ rfl rfl rfl rfl rfl (by kernel_rfl) Tryd.func4 (by kernel_rfl)
    (of_decide_eq_true (by kernel_rfl)) (by unfold Func.isWrapper; first | (rw [if_pos (by decide +kernel)]; kernel_rfl) | (rw [if_neg (by decide +kernel)]; exact ⟨rfl, rfl⟩))
    (fun os started H enc _ => matchSplit_lifted os started H enc)
end Go.Proofs.YtfajnggdlhbgnaaDoor
