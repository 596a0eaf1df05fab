/- All of the statements of chapter 20. -/
import Derived.Test.YtkocgknidpmcmaaDoorSplitB
namespace Go.Proofs.YtkocgknidpmcmaaDoor
open Go.RowKit
set_option linter.unusedVariables false
set_option linter.unusedSimpArgs false

/-- A small result as an argument. -/
structure Sm where
  p : Int
  wt : Int
  A : Option Addr
  c : Nat
  l : List Int
def Sm.r (s : Sm) : List (Int × Int) := madeR s.p s.wt s.l
theorem Sm.right {w : World} {s : Sm} (h : SmallOk w s.p s.wt s.A s.c s.l) : rightR s.r = true := made_right _ _ _ h.2.1.1
/-- The address A is that of these small results. -/
def Smalls (w : World) (A : Option Addr) (l : List Sm) : Prop :=
  ∀ (i : Nat) (s : Sm), l[i]? = some s → ∃ b o : Nat, A = some ⟨b, o, none⟩ ∧ w.cell? ⟨b, o + i * 3, none⟩ = some (.int .i16 s.p) ∧ w.cell? ⟨b, o + i * 3 + 1, none⟩ = some (.int .u8 s.wt) ∧
    w.cell? ⟨b, o + i * 3 + 2, none⟩ = some (.slice s.A s.l.length s.c) ∧ SmallOk w s.p s.wt s.A s.c s.l
theorem Smalls.later {w w' : World} {A : Option Addr} {l : List Sm} (h : Smalls w A l) (hb : Below w.heap.size w w') : Smalls w' A l := fun i s hs =>
  let ⟨b, o, h1, h2, h3, h4, h5⟩ := h i s hs
  ⟨b, o, h1, cell_later hb h2, cell_later hb h3, cell_later hb h4, h5.later hb⟩

def AllRel (w : World) (l : List Sm) (n : Nat) (v i : Value) (wr : World) : Prop :=
  ∃ k : Nat, k ≤ n ∧ i = .int .i64 k ∧ OwnRess wr w.heap.size v ((l.take k).map Sm.r) ∧ Below w.heap.size w wr

set_option maxRecDepth 100000 in
set_option maxHeartbeats 1000000 in
theorem All_any (A : Option Addr) (c : Nat) (l : List Sm) (most : Nat) (w : World) (hA : Smalls w A l) (hl : l.length ≤ c ∧ c ≤ 9223372036854775807) (hm : most ≤ 1000) :
    Calls Tryd.prog 25 #[.slice A l.length c, .int .i64 most] w fun e w' => ∃ v, e = .returned v ∧ OwnRess w' w.heap.size v ((l.take most).map Sm.r) ∧ Below w.heap.size w w' := by
  obtain ⟨i0, hi, hz0, hz1, hz2⟩ := info_parts infoRes
  obtain ⟨n, hn⟩ : ∃ n : Nat, n = min l.length most := ⟨_, rfl⟩
  have hmin : (if most < l.length then (most : Int) else (l.length : Int)) = (n : Int) := by split <;> omega
  have hnl : n ≤ l.length ∧ n ≤ 1000 := by omega
  have hnc : n ≤ c := by omega
  have HT : Sec (l.take most = l.take n) := ⟨by
    rcases Nat.le_total l.length most with h | h
    · rw [List.take_of_length_le h, List.take_of_length_le (by omega)]
    · rw [show n = most by omega]⟩
  have HA := Sec.mk hA
  have HI := Sec.mk hi
  have Z0 := Sec.mk hz0
  have Z1 := Sec.mk hz1
  have Z2 := Sec.mk hz2
  have HLc := Sec.mk hl
  have hlc : l.length ≤ c := hl.1
  rw [HT.out]
  clear hA hi hz0 hz1 hz2 hn hm hl
  go_enter Tryd.func25, Tryd.ntmps25
  go_wp2_with fail

  go_loopw [5, 15] (fun v i wr => AllRel w l n v i wr) (fun _ i _ => n - (intOf i).toNat)
  case atStart => exact ⟨0, Nat.zero_le _, rfl, OwnRess.nil _ _, Below.refl _ _⟩
  case round =>
    clear hmin
    obtain ⟨k, hk, rfl, hown, hB⟩ := hrel
    by_cases hlt : k < n
    · obtain ⟨s, hp⟩ : ∃ s, l[k]? = some s := ⟨_, List.getElem?_eq_getElem (by omega)⟩
      obtain ⟨b, o, rfl, h1, h2, h3, h4⟩ := HA.out.later hB k s hp
      have HT2 : Sec ((l.take (k + 1)).map Sm.r = (l.take k).map Sm.r ++ [s.r]) := ⟨by
        obtain ⟨hk', rfl⟩ := List.getElem?_eq_some_iff.1 hp
        rw [List.take_succ_eq_append_getElem hk', List.map_append]; rfl⟩
      have hlen : ((l.take k).map Sm.r).length = k := by simp; omega
      have hB0 := hB.size
      have HM := Sec.mk (Made_ok (h4.later (w' := wr.alloc (.cells #[.int .i16 s.p, .int .u8 s.wt, .slice s.A s.l.length s.c] 85)) ((Below.refl _ _).alloc (Nat.le_refl _) _)))
      have HR : Sec (madeR s.p s.wt s.l = s.r) := ⟨rfl⟩
      rw [HR.out] at HM
      have HO0 := Sec.mk hown
      have HL := Sec.mk hlen
      have HB := Sec.mk hB
      clear hp hown hlen h4 hB
      go_wp2_with fail
      refine HM.out.mono ?_
      rintro e w1 ⟨A', c', rfl, hP, hb1⟩
      have hb1' : Below wr.heap.size wr w1 := ((Below.refl _ _).alloc (Nat.le_refl _) _).trans (hb1.mono (by simp))
      have hB1 : Below w.heap.size w w1 := HB.out.trans (hb1'.mono hB0)
      have HN : OwnRess (w1.alloc (.cells #[.slice A' s.r.length c'] 35)) w.heap.size u5 ((l.take k).map Sm.r) := (HO0.out.later hb1').later ((Below.refl _ _).alloc (Nat.le_refl _) _)
      have HPB := Sec.mk (hP.later ((Below.refl _ _).alloc (Nat.le_refl _) (.cells #[.slice A' s.r.length c'] 35)))
      obtain ⟨vs, hvs, hvs2⟩ := HN
      have HO := Sec.mk hvs
      have HO2 := Sec.mk hvs2
      have hB1s := hB1.size
      clear hvs hvs2 hP hb1 hb1' HM
      go_wp2_with (at_builtin; refine wpList_append_own _ rfl _ _ 33 rfl w.heap.size 35 i0 _ 1 24 Tryd.underlying33 HI.out Z0.out Z1.out Z2.out rfl (by decide) _ _ _ rfl HO.out ⟨w1.heap.size, 0, none⟩ 1 1 [.slice A' s.r.length c'] rfl rfl ?c1 ?c2 ?c3 ?c4 ?c5 ?_)
      case c1 => exact news1 _ (by simp)
      case c2 => intro u hu; simp at hu; subst hu; rfl
      case c3 => rw [HL.out]; unfold maxLen; omega
      case c4 => rw [HL.out]; omega
      case c5 => simp; omega
      intro v' w2 hown' hgrow _
      have hR : OwnRess w2 w.heap.size v' ((l.take (k + 1)).map Sm.r) := by
        rw [HT2.out]
        exact OwnRess.push (Ai := A') (ci := c') HO.out HO2.out HPB.out (by rw [show ((l.take k).map Sm.r).length = min k l.length by simp]; exact hown') hgrow
      have hB2 : Below w.heap.size w w2 := (hB1.alloc hB1s _).grown hgrow (by simp; omega) (fun k hk => (HO.out.lt k hk).1)
      have HR := Sec.mk hR
      clear hown' hgrow hR
      go_wp2_with fail
      exact ⟨⟨k + 1, hlt, rfl, HR.out, hB2⟩, by simp only [intOf]; omega⟩
    · have hk0 : k = n := by omega
      rw [hk0] at hown
      clear hk0
      have HO := Sec.mk hown
      clear hown
      go_wp2_with fail
      go_ret
      exact ⟨_, rfl, HO.out, hB⟩
end Go.Proofs.YtkocgknidpmcmaaDoor
