/- The reference of chapter 20: copied, Among. -/
import Derived.Test.YtfajnggdlhbgnaaDoorRefC
namespace Go.Proofs.YtfajnggdlhbgnaaDoor
open Go.RowKit
set_option linter.unusedVariables false
set_option linter.unusedSimpArgs false

/-- Parts that lie in a block of parts. -/
def PartsC (w : World) (A : Option Addr) (r : List (Int × Int)) : Prop :=
  Parts w A r ∧ ∀ a, A = some a → ∃ cs fr, w.heap[a.block]? = some (.cells cs 80 fr)
theorem PartsC.later {w w' : World} {A : Option Addr} {r : List (Int × Int)} (h : PartsC w A r) (hb : Below w.heap.size w w') : PartsC w' A r :=
  ⟨h.1.later hb, fun a ha => let ⟨cs, fr, e⟩ := h.2 a ha; ⟨cs, fr, (hb.block _ (heap_lt e)).trans e⟩⟩
/-- A row of another type is written: the parts stay. -/
theorem PartsC.grown {w w' : World} {A : Option Addr} {r : List (Int × Int)} {row : Option Nat} (h : PartsC w A r) (hg : w.grownBy w' row)
    (hr : ∀ g, row = some g → ∃ cs e fr, w.heap[g]? = some (.cells cs e fr) ∧ e ≠ 80) : PartsC w' A r := by
  have key : ∀ a, A = some a → w'.heap[a.block]? = w.heap[a.block]? := by
    intro a ha
    obtain ⟨cs, fr, e⟩ := h.2 a ha
    refine hg.block _ (heap_lt e) ?_
    intro hrow
    obtain ⟨cs', e', fr', h1, h2⟩ := hr _ hrow.symm
    rw [h1] at e
    injection e with e
    injection e with _ e
    exact h2 e
  refine ⟨fun i p hp => ?_, fun a ha => ?_⟩
  · obtain ⟨b, o, rfl, h1, h2⟩ := h.1 i p hp
    have hk := key _ rfl
    exact ⟨b, o, rfl, (World.cell?_of_block (w := w) (w' := w') (a := ⟨b, o + i * 2, none⟩) hk).trans h1, (World.cell?_of_block (w := w) (w' := w') (a := ⟨b, o + i * 2 + 1, none⟩) hk).trans h2⟩
  · obtain ⟨cs, fr, e⟩ := h.2 a ha
    exact ⟨cs, fr, (key a ha).trans e⟩
theorem partsC_of_own {w : World} {base : Nat} {v : Value} {r : List (Int × Int)} (h : w.ownsRow base 80 2 v r.length (partCells r)) :
    ∃ A c, v = .slice A r.length c ∧ PartsC w A r ∧ (∀ b, A = some b → base ≤ b.block) := by
  obtain ⟨A, c, hv, hp, hb⟩ := parts_of_own h
  refine ⟨A, c, hv, ⟨hp, fun a ha => ?_⟩, hb⟩
  rcases h.2 with ⟨h0, _⟩ | ⟨g, cap, cur, hv', _, hh, _⟩
  · rw [hv, ha] at h0; cases h0
  · rw [hv, ha] at hv'
    injection hv' with hv'
    injection hv' with hv'
    subst hv'
    exact ⟨cur, (0, 0), hh⟩

/-- A row of the call's own that holds results. -/
def OwnResC (w : World) (base : Nat) (v : Value) (l : List (List (Int × Int))) : Prop :=
  ∃ vs : List Value, w.ownsRow base 35 1 v l.length vs ∧ ∀ (i : Nat) (r : List (Int × Int)), l[i]? = some r → ∃ Ai ci, vs[i]? = some (.slice Ai r.length ci) ∧ PartsC w Ai r
theorem OwnResC.nil (w : World) (base : Nat) : OwnResC w base (.slice none 0 0) [] := ⟨[], World.ownsRow_nil _ _ _ _, fun i r h => by simp at h⟩
theorem OwnResC.later {w w' : World} {base : Nat} {v : Value} {l : List (List (Int × Int))} (h : OwnResC w base v l) (hb : Below w.heap.size w w') : OwnResC w' base v l :=
  let ⟨vs, h1, h2⟩ := h
  ⟨vs, own_below h1 hb, fun i r hr => let ⟨Ai, ci, e1, e2⟩ := h2 i r hr; ⟨Ai, ci, e1, e2.later hb⟩⟩
theorem OwnResC.push {w w' : World} {base : Nat} {v v' : Value} {l : List (List (Int × Int))} {r : List (Int × Int)} {Ai : Option Addr} {ci : Nat} {vs : List Value} (h1 : w.ownsRow base 35 1 v l.length vs) (h2 : ∀ (i : Nat) (r : List (Int × Int)), l[i]? = some r → ∃ Ai ci, vs[i]? = some (.slice Ai r.length ci) ∧ PartsC w Ai r) (hr : PartsC w Ai r)
    (hown : w'.ownsRow base 35 1 v' (l.length + 1) (vs ++ [.slice Ai r.length ci])) (hg : w.grownBy w' v.ownBlock) : OwnResC w' base v' (l ++ [r]) := by
  have hne : ∀ g, v.ownBlock = some g → ∃ cs e fr, w.heap[g]? = some (.cells cs e fr) ∧ e ≠ 80 := by
    intro g hg'
    rcases h1.2 with ⟨rfl, _⟩ | ⟨g', cap, cur, rfl, _, hh, _⟩
    · simp [Value.ownBlock] at hg'
    · simp [Value.ownBlock] at hg'
      subst hg'
      exact ⟨cur, 35, (0, 0), hh, by decide⟩
  have hlen : vs.length = l.length := by have := h1.1; simpa using this
  refine ⟨vs ++ [.slice Ai r.length ci], by simpa using hown, fun i r' hi => ?_⟩
  rcases Nat.lt_or_ge i l.length with hlt | hge
  · rw [List.getElem?_append_left hlt] at hi
    obtain ⟨Bi, di, e1, e2⟩ := h2 i r' hi
    exact ⟨Bi, di, by rw [List.getElem?_append_left (by omega)]; exact e1, e2.grown hg hne⟩
  · rw [List.getElem?_append_right hge] at hi
    have hi0 : i - l.length = 0 := by
      rcases Nat.eq_zero_or_pos (i - l.length) with h | h
      · exact h
      · rw [List.getElem?_eq_none (by simp only [List.length_cons, List.length_nil]; omega)] at hi; cases hi
    rw [hi0] at hi
    simp at hi
    subst hi
    have : i = vs.length := by omega
    subst this
    exact ⟨Ai, ci, by simp, hr.grown hg hne⟩
theorem OwnResC.ress {w : World} {base : Nat} {v : Value} {l : List (List (Int × Int))} (h : OwnResC w base v l) : ∃ A c, v = .slice A l.length c ∧ Ress w A l := by
  obtain ⟨vs, h1, h2⟩ := h
  rcases h1.2 with ⟨rfl, h0⟩ | ⟨g, cap, cur, hv, hb, _⟩
  · rw [h0]
    exact ⟨none, 0, rfl, fun i p hp => by
      have : l = [] := List.eq_nil_of_length_eq_zero h0
      subst this; simp at hp⟩
  · refine ⟨_, _, hv, fun i r hr => ⟨g, 0, rfl, ?_⟩⟩
    obtain ⟨Ai, ci, e1, e2⟩ := h2 i r hr
    have hc := h1.cells (g := g) (by rw [hv]; rfl) i _ e1
    refine ⟨Ai, ci, ?_, e2.1⟩
    simp only [Addr.add] at hc
    by_cases hz : i = 0
    · subst hz; simpa using hc
    · simpa [hz] using hc


theorem infoRRes : (Tryd.prog.info? 35).map (fun i => (i.zero, i.size, i.bytes)) = some (some (.slice none 0 0), 1, 24) := by kernel_rfl

def CopRel (w : World) (l : List (List (Int × Int))) (v i : Value) (wr : World) : Prop :=
  ∃ k : Nat, k ≤ l.length ∧ i = .int .i64 k ∧ OwnResC wr w.heap.size v (l.take k) ∧ Below w.heap.size w wr

set_option maxRecDepth 100000 in
set_option maxHeartbeats 1000000 in
theorem copied_any (A : Option Addr) (c : Nat) (l : List (List (Int × Int))) (w : World) (hA : Ress w A l) (hl : l.length ≤ 1000) (hls : ∀ r ∈ l, r.length ≤ 1000) :
    Calls Tryd.prog 11 #[.slice A l.length c] w fun e w' => ∃ v, e = .returned v ∧ OwnResC w' w.heap.size v l ∧ Below w.heap.size w w' := by
  obtain ⟨i0, hi, hz0, hz1, hz2⟩ := info_parts infoRRes
  have HA := Sec.mk hA
  have HLs := Sec.mk hls
  have HI := Sec.mk hi
  have Z0 := Sec.mk hz0
  have Z1 := Sec.mk hz1
  have Z2 := Sec.mk hz2
  clear hA hls hi hz0 hz1 hz2
  go_enter Tryd.func11, Tryd.ntmps11
  go_wp2_with fail
  go_loopw [3, 8] (fun v i wr => CopRel w l v i wr) (fun _ i _ => l.length - (intOf i).toNat)
  case atStart => exact ⟨0, Nat.zero_le _, rfl, OwnResC.nil _ _, Below.refl _ _⟩
  case round =>
    obtain ⟨k, hk, rfl, hown, hB⟩ := hrel
    by_cases hlt : k < l.length
    · obtain ⟨r, hp⟩ : ∃ r, l[k]? = some r := ⟨_, List.getElem?_eq_getElem hlt⟩
      obtain ⟨b, o, rfl, Ai, ci, h1, h2⟩ := HA.out.later hB k r hp
      have HT2 : Sec (l.take (k + 1) = l.take k ++ [r]) := ⟨by
        obtain ⟨hk', e⟩ := List.getElem?_eq_some_iff.1 hp
        rw [List.take_succ_eq_append_getElem hk', e]⟩
      have hlen : (l.take k).length = k := by simp; omega
      have hB0 := hB.size
      have HM := Sec.mk (fun w' (h : Below wr.heap.size wr w') => theirs_any Ai ci r w' (h2.later h) (HLs.out r (List.mem_of_getElem? hp)))
      have HO0 := Sec.mk hown
      have HL := Sec.mk hlen
      have HB := Sec.mk hB
      clear hp hown hlen h2 hB
      go_wp2_with fail
      refine (HM.out _ (by first | exact Below.refl _ _ | exact (Below.refl _ _).alloc (Nat.le_refl _) _)).mono ?_
      rintro e w1 ⟨v1, rfl, hO1, hb1⟩
      obtain ⟨A', c', rfl, hP, -⟩ := partsC_of_own hO1
      have hB1 : Below w.heap.size w w1 := HB.out.trans (hb1.mono hB0)
      have HN : OwnResC (w1.alloc (.cells #[.slice A' r.length c'] 35)) w.heap.size u3 (l.take k) := (HO0.out.later hb1).later ((Below.refl _ _).alloc (Nat.le_refl _) _)
      have HPB := Sec.mk (hP.later ((Below.refl _ _).alloc (Nat.le_refl _) (.cells #[.slice A' r.length c'] 35)))
      obtain ⟨vs, hvs, hvs2⟩ := HN
      have HO := Sec.mk hvs
      have HO2 := Sec.mk hvs2
      have hB1s := hB1.size
      clear hvs hvs2 hP hb1 hO1 HM
      go_wp2_with (at_builtin; refine wpList_append_own _ rfl _ _ 26 rfl w.heap.size 35 i0 _ 1 24 Tryd.underlying26 HI.out Z0.out Z1.out Z2.out rfl (by decide) _ _ _ rfl HO.out ⟨w1.heap.size, 0, none⟩ 1 1 [.slice A' r.length c'] rfl rfl ?c1 ?c2 ?c3 ?c4 ?c5 ?_)
      case c1 => exact news1 _ (by simp)
      case c2 => intro u hu; simp at hu; subst hu; rfl
      case c3 => rw [HL.out]; unfold maxLen; omega
      case c4 => rw [HL.out]; omega
      case c5 => simp; omega
      intro v' w2 hown' hgrow _
      have hR : OwnResC w2 w.heap.size v' (l.take (k + 1)) := by
        rw [HT2.out]
        exact OwnResC.push (Ai := A') (ci := c') HO.out HO2.out HPB.out (by first | exact hown' | (rw [HL.out]; exact hown') | (rw [show (l.take k).length = min k l.length by simp]; exact hown')) hgrow
      have hB2 : Below w.heap.size w w2 := (hB1.alloc hB1s _).grown hgrow (by simp; omega) (fun k hk => (HO.out.lt k hk).1)
      have HR := Sec.mk hR
      clear hown' hgrow hR
      go_wp2_with fail
      exact ⟨⟨k + 1, hlt, rfl, HR.out, hB2⟩, by simp only [intOf]; omega⟩
    · have hk0 : k = l.length := by omega
      rw [hk0, List.take_length] at hown
      clear hk0
      have HO := Sec.mk hown
      clear hown
      go_wp2_with fail
      go_ret
      exact ⟨_, rfl, HO.out, hB⟩

def amongN (l : List (List (Int × Int))) (i : Nat) (k : Nat) : Int := sumTo (gainR (l.getD i [])) l k - (if i < k then gainR (l.getD i []) (l.getD i []) else 0)
theorem amongN_succ {l : List (List (Int × Int))} {i k : Nat} {r : List (Int × Int)} (hk : l[k]? = some r) : amongN l i (k + 1) = amongN l i k + (if k = i then 0 else gainR (l.getD i []) r) := by
  unfold amongN
  rw [sumTo_succ _ _ _ _ hk]
  by_cases h : k = i
  · subst h
    have : l.getD k [] = r := by rw [List.getD_eq_getElem?_getD, hk]; rfl
    rw [this, if_pos (by omega), if_neg (by omega), if_pos rfl]; omega
  · rw [if_neg h]
    by_cases h2 : i < k
    · rw [if_pos (by omega), if_pos h2]; omega
    · rw [if_neg (by omega), if_neg h2]; omega
theorem amongN_all (l : List (List (Int × Int))) (i : Nat) (a : List (Int × Int)) (h : l[i]? = some a) : amongN l i l.length = matchN l a := by
  have hi := (List.getElem?_eq_some_iff.1 h).1
  have : l.getD i [] = a := by rw [List.getD_eq_getElem?_getD, h]; rfl
  unfold amongN matchN
  rw [this, if_pos hi, sumTo_all]

def AmongRel (w : World) (l : List (List (Int × Int))) (i : Nat) (n j : Value) (wr : World) : Prop :=
  ∃ (k : Nat) (S : Int), k ≤ l.length ∧ j = .int .i64 k ∧ n = .int .i64 S ∧ S = amongN l i k ∧ 0 ≤ S ∧ S ≤ 320000 * (k : Int) ∧ Below w.heap.size w wr

set_option maxRecDepth 100000 in
set_option maxHeartbeats 1000000 in
theorem among_any (A : Option Addr) (c : Nat) (l : List (List (Int × Int))) (i : Nat) (a : List (Int × Int)) (w : World) (hA : Ress w A l) (hi : l[i]? = some a) (hl : l.length ≤ 1000) (hw : ∀ r ∈ l, weightsOk r) :
    Calls Tryd.prog 43 #[.slice A l.length c, .int .i64 i] w fun e w' => e = .returned (.int .i64 (matchN l a)) ∧ Below w.heap.size w w' := by
  have HA := Sec.mk hA
  have HW := Sec.mk hw
  have HE := Sec.mk (amongN_all l i a hi)
  have hga : l.getD i [] = a := by rw [List.getD_eq_getElem?_getD, hi]; rfl
  have hil := (List.getElem?_eq_some_iff.1 hi).1
  have HI := Sec.mk hi
  have wa := Sec.mk (hw a (List.mem_of_getElem? hi))
  have HGA := Sec.mk hga
  clear hA hw hi hga
  go_enter Tryd.func43, Tryd.ntmps43
  go_wp2_with fail
  go_loopw [5, 6] (fun n j wr => AmongRel w l i n j wr) (fun _ j _ => l.length - (intOf j).toNat)
  case atStart => exact ⟨0, 0, Nat.zero_le _, rfl, rfl, by unfold amongN; rw [sumTo_zero, if_neg (by omega)]; rfl, by omega, by omega, Below.refl _ _⟩
  case round =>
    obtain ⟨k, S, hk, rfl, rfl, hS, hS0, hS1, hB⟩ := hrel
    by_cases hlt : k < l.length
    · obtain ⟨r, hr⟩ : ∃ r, l[k]? = some r := ⟨_, List.getElem?_eq_getElem hlt⟩
      have hN := amongN_succ (i := i) hr
      rw [HGA.out, ← hS] at hN
      have wr' := HW.out r (List.mem_of_getElem? hr)
      have hgb := gainR_bd a r wa.out wr'
      obtain ⟨b, o, rfl, Ai, ci, h1, h2⟩ := HA.out.later hB k r hr
      obtain ⟨b', o', e, Aj, cj, h3, h4⟩ := HA.out.later hB i a HI.out
      cases e
      have HB := Sec.mk hB
      by_cases hki : k = i
      · rw [if_pos hki, Int.add_zero] at hN
        have HN := Sec.mk hN
        clear hN hS hr hgb h1 h2 h3 h4 wr'
        subst hki
        go_wp2_with fail
        exact ⟨⟨k + 1, S, hlt, rfl, rfl, HN.out.symm, hS0, by omega, HB.out⟩, by simp only [intOf]; omega⟩
      · rw [if_neg hki] at hN
        have HN := Sec.mk hN
        have HC := Sec.mk (refGets_any Aj Ai cj ci a r)
        have HP1 := Sec.mk (fun w' (h : Below wr.heap.size wr w') => h4.later h)
        have HP2 := Sec.mk (fun w' (h : Below wr.heap.size wr w') => h2.later h)
        have HWr := Sec.mk wr'
        have hki' : ¬ (k : Int) = (i : Int) := by omega
        have hS2 : S + gainR a r ≤ 320000 * ((k + 1 : Nat) : Int) := by omega
        have hb3 : S + gainR a r ≤ 1000000000 := by omega
        clear hN hS hr hB h2 h4 wr' hki
        generalize gainR a r = GR at *
        have hbk : IntKind.i64.wrap (S + GR) = S + GR := IntWalk.i64_in _ ⟨by omega, by omega⟩
        have hBx := Below.refl wr.heap.size wr
        go_wp2_with fail
        go_region_held3 (fun w' => w'.cell? ⟨b, o + k, none⟩ = some (.slice Ai r.length ci) ∧ w'.cell? ⟨b, o + i, none⟩ = some (.slice Aj a.length cj))
          (first | assumption | exact ⟨h1, h3⟩ | exact ⟨cell_later hBx h1, cell_later hBx h3⟩)
          ((go_at_call 44; refine (HC.out _ (HP1.out _ ?_) (HP2.out _ ?_) wa.out HWr.out).mono ?_; (repeat (first | exact hBx | refine Below.drew ?_ | refine below_drewN ?_ _)); rintro e w1 ⟨rfl, hb1⟩; have hBx : Below wr.heap.size wr w1 := Below.trans (by repeat (first | exact hBx | refine Below.drew ?_ | refine below_drewN ?_ _)) hb1))
        all_goals go_wp2_with fail
        all_goals exact ⟨⟨k + 1, S + GR, hlt, rfl, rfl, HN.out.symm, by omega, hS2, HB.out.trans (Below.mono (by repeat (first | exact hBx | refine Below.drew ?_ | refine below_drewN ?_ _)) HB.out.size)⟩, by simp only [intOf]; omega⟩
    · have hk0 : k = l.length := by omega
      have HF : Sec (S = matchN l a) := ⟨by rw [hS, hk0]; exact HE.out⟩
      clear hS hk0
      go_wp2_with fail
      go_ret
      exact ⟨ret_i HF.out, hB⟩
end Go.Proofs.YtfajnggdlhbgnaaDoor
