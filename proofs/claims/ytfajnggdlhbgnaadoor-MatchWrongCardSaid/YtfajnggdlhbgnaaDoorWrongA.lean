/- MatchWrong: the walk. -/
import Derived.Test.YtfajnggdlhbgnaaDoorTellsA
import Derived.Test.YtfajnggdlhbgnaaDoorAppK
import Derived.Test.YtfajnggdlhbgnaaDoorPairsA
namespace Go.Proofs.YtfajnggdlhbgnaaDoor
open Go.RowKit
set_option linter.unusedVariables false
set_option linter.unusedSimpArgs false

theorem parts_lit (w : World) (r : List (Int × Int)) (cs : Array Value) (h : cs = (partCells r).toArray) (hl : r.length ≤ 1000) : PartsB (w.alloc (.cells cs 44)) (some ⟨w.heap.size, 0, none⟩) r := by
  subst h
  have hp : ∀ r : List (Int × Int), (partCells r).length = r.length * 2 := by
    intro r
    induction r with
    | nil => rfl
    | cons x r ih => rw [show x :: r = [x] ++ r from rfl, partCells_append, List.length_append, ih]; simp [partCells]; omega
  have ho := World.ownsRow_lit (base := 0) (e := 44) (size := 2) w (partCells r).toArray r.length (Nat.zero_le _) (by unfold maxLen; omega) (by simpa using hp r)
  obtain ⟨A, c, hv, hP, _⟩ := partsB_of_own (r := r) (by simpa using ho)
  simp only [Value.slice.injEq] at hv
  rw [hv.1]
  exact hP
theorem partsB_nil (w : World) : PartsB w none [] := ⟨fun i p hp => by simp at hp, fun a ha => by cases ha⟩
theorem ress_two (w : World) (A B : Option Addr) (a b : List (Int × Int)) (c d : Nat) (ha : Parts w A a) (hb : Parts w B b) :
    Ress (w.alloc (.cells #[.slice A a.length c, .slice B b.length d] 24)) (some ⟨w.heap.size, 0, none⟩) [a, b] := by
  have h0 : Below w.heap.size w (w.alloc (.cells #[.slice A a.length c, .slice B b.length d] 24)) := (Below.refl _ _).alloc (Nat.le_refl _) _
  intro i r hr
  match i, hr with
  | 0, hr => simp at hr; subst hr; exact ⟨w.heap.size, 0, rfl, A, c, by go_simp, ha.later h0⟩
  | 1, hr => simp at hr; subst hr; exact ⟨w.heap.size, 0, rfl, B, d, by go_simp, hb.later h0⟩
theorem OwnRess.more {w w' : World} {base : Nat} {v v' : Value} {l m : List (List (Int × Int))} {vs ws : List Value} (h1 : w.ownsRow base 24 1 v l.length vs)
    (h2 : ∀ (i : Nat) (r : List (Int × Int)), l[i]? = some r → ∃ Ai ci, vs[i]? = some (.slice Ai r.length ci) ∧ PartsB w Ai r)
    (hm : ∀ (i : Nat) (r : List (Int × Int)), m[i]? = some r → ∃ Ai ci, ws[i]? = some (.slice Ai r.length ci) ∧ PartsB w Ai r)
    (hown : w'.ownsRow base 24 1 v' (l.length + m.length) (vs ++ ws)) (hg : w.grownBy w' v.ownBlock) : OwnRess w' base v' (l ++ m) := by
  have hlen : vs.length = l.length := by have := h1.1; simpa using this
  refine ⟨vs ++ ws, by simpa using hown, fun i r hi => ?_⟩
  rcases Nat.lt_or_ge i l.length with hlt | hge
  · rw [List.getElem?_append_left hlt] at hi
    obtain ⟨Bi, di, e1, e2⟩ := h2 i r hi
    exact ⟨Bi, di, by rw [List.getElem?_append_left (by omega)]; exact e1, e2.grownRes h1 hg⟩
  · rw [List.getElem?_append_right hge] at hi
    obtain ⟨Bi, di, e1, e2⟩ := hm _ r hi
    exact ⟨Bi, di, by rw [List.getElem?_append_right (by omega), hlen]; exact e1, e2.grownRes h1 hg⟩

theorem points_two_wrong (w : World) (A B : Option Addr) (a b : List (Int × Int)) (c d g : Nat) (hg : g = w.heap.size) (ha : Parts w A a) (hb : Parts w B b) (la : a.length ≤ 140737488351232) (lb : b.length ≤ 140737488351232) (h : rightR b = false) :
    Calls Tryd.prog 12 #[.slice (some ⟨g, 0, none⟩) 2 2] (w.alloc (.cells #[.slice A a.length c, .slice B b.length d] 24)) fun e w' => e = .returned (.tuple #[.slice none 0 0, .int .i64 2]) ∧ Below w.heap.size w w' := by
  subst hg
  have h0 : Below w.heap.size w (w.alloc (.cells #[.slice A a.length c, .slice B b.length d] 24)) := (Below.refl _ _).alloc (Nat.le_refl _) _
  exact (Points_wrong (some ⟨w.heap.size, 0, none⟩) 2 [a, b] _ (ress_two w A B a b c d ha hb) (by simp) (by intro x hx; simp at hx; rcases hx with rfl | rfl <;> assumption) (by simp [h])).mono fun e w' ⟨e1, e2⟩ => ⟨e1, btr h0 e2⟩

def badsL (m1 m2 m3 m4 : Int) : List (List (Int × Int)) := [[], [(5, 99)], [(5, m1), (5, 100)], [(m2, 100)], [(m3, 100)], [(0, m4)], [(0, 20), (0, 20), (0, 20), (0, 20), (0, 20)]]
theorem bads_wrong {m1 m2 m3 m4 : Int} (h1 : m1 ≤ 0) (h2 : 10001 ≤ m2) (h3 : m3 ≤ -10001) (h4 : 101 ≤ m4) : ∀ r ∈ badsL m1 m2 m3 m4, rightR r = false ∧ r.length ≤ 5 := by
  intro r hr
  simp only [badsL, List.mem_cons, List.not_mem_nil, or_false] at hr
  have hb : ∀ p : Int × Int, ∀ r, p ∈ r → badPart p = true → rightR r = false := fun p r hp hb => by
    obtain ⟨k, hk⟩ := List.mem_iff_getElem?.1 hp
    exact rightR_bad hk hb
  rcases hr with rfl | rfl | rfl | rfl | rfl | rfl | rfl
  · exact ⟨by decide, by decide⟩
  · exact ⟨by decide, by decide⟩
  · exact ⟨hb (5, m1) _ (by simp) (by simp [badPart]; omega), by simp⟩
  · exact ⟨hb (m2, 100) _ (by simp) (by simp [badPart]; omega), by simp⟩
  · exact ⟨hb (m3, 100) _ (by simp) (by simp [badPart]; omega), by simp⟩
  · exact ⟨hb (0, m4) _ (by simp) (by simp [badPart]; omega), by simp⟩
  · exact ⟨by decide, by decide⟩

theorem many_right {a : List (Int × Int)} (h : rightR a = true) (k : Nat) : (List.replicate k a).any (fun r => !rightR r) = false := by
  rw [List.any_eq_false]
  intro r hr
  rw [List.eq_of_mem_replicate hr, h]; decide
theorem many_points {a : List (Int × Int)} (h : rightR a = true) : (List.replicate 24 a).map (fun r => qp (matchQ (List.replicate 24 a) r)) = List.replicate 24 (23, 1) := by
  rw [List.map_replicate]
  have e1 : matchN (List.replicate 24 a) a = 10000 * 23 := by
    unfold matchN
    rw [List.map_replicate, gainR_self h]
    simp
  have e2 : matchQ (List.replicate 24 a) a = ((23 : Int) : Rat) := by
    unfold matchQ; rw [e1]; exact quot_int 23
  rw [e2, qp_int]

/-- The wrong results as they are laid. -/
theorem bads_lay (w1 : World) (m1 m2 m3 m4 : Int) :
    let W := (((((((w1.alloc (.cells #[.int .i64 5, .int .i64 99] 44)).alloc (.cells #[.int .i64 5, .int .i64 m1, .int .i64 5, .int .i64 100] 44)).alloc (.cells #[.int .i64 m2, .int .i64 100] 44)).alloc
      (.cells #[.int .i64 m3, .int .i64 100] 44)).alloc (.cells #[.int .i64 0, .int .i64 m4] 44)).alloc (.cells #[.int .i64 0, .int .i64 20, .int .i64 0, .int .i64 20, .int .i64 0, .int .i64 20, .int .i64 0, .int .i64 20, .int .i64 0, .int .i64 20] 44)).alloc
      (.cells #[.slice none 0 0, .slice (some ⟨w1.heap.size, 0, none⟩) 1 1, .slice (some ⟨w1.heap.size + 1, 0, none⟩) 2 2, .slice (some ⟨w1.heap.size + 1 + 1, 0, none⟩) 1 1, .slice (some ⟨w1.heap.size + 1 + 1 + 1, 0, none⟩) 1 1, .slice (some ⟨w1.heap.size + 1 + 1 + 1 + 1, 0, none⟩) 1 1, .slice (some ⟨w1.heap.size + 1 + 1 + 1 + 1 + 1, 0, none⟩) 5 5] 24))
    ∃ W' g, W' = W ∧ g = w1.heap.size + 1 + 1 + 1 + 1 + 1 + 1 ∧ Ress W' (some ⟨g, 0, none⟩) (badsL m1 m2 m3 m4) ∧ Below w1.heap.size w1 W' := by
  intro W
  refine ⟨W, _, rfl, rfl, ?_⟩
  have st : ∀ (w : World) (o : Obj), Below w.heap.size w (w.alloc o) := fun w o => (Below.refl _ _).alloc (Nat.le_refl _) _
  obtain ⟨W1, e1⟩ : ∃ W1, W1 = w1.alloc (.cells #[.int .i64 5, .int .i64 99] 44) := ⟨_, rfl⟩
  obtain ⟨W2, e2⟩ : ∃ W2, W2 = W1.alloc (.cells #[.int .i64 5, .int .i64 m1, .int .i64 5, .int .i64 100] 44) := ⟨_, rfl⟩
  obtain ⟨W3, e3⟩ : ∃ W3, W3 = W2.alloc (.cells #[.int .i64 m2, .int .i64 100] 44) := ⟨_, rfl⟩
  obtain ⟨W4, e4⟩ : ∃ W4, W4 = W3.alloc (.cells #[.int .i64 m3, .int .i64 100] 44) := ⟨_, rfl⟩
  obtain ⟨W5, e5⟩ : ∃ W5, W5 = W4.alloc (.cells #[.int .i64 0, .int .i64 m4] 44) := ⟨_, rfl⟩
  obtain ⟨W6, e6⟩ : ∃ W6, W6 = W5.alloc (.cells #[.int .i64 0, .int .i64 20, .int .i64 0, .int .i64 20, .int .i64 0, .int .i64 20, .int .i64 0, .int .i64 20, .int .i64 0, .int .i64 20] 44) := ⟨_, rfl⟩
  have z1 : W1.heap.size = w1.heap.size + 1 := by rw [e1]; simp
  have z2 : W2.heap.size = w1.heap.size + 1 + 1 := by rw [e2]; simp [z1]
  have z3 : W3.heap.size = w1.heap.size + 1 + 1 + 1 := by rw [e3]; simp [z2]
  have z4 : W4.heap.size = w1.heap.size + 1 + 1 + 1 + 1 := by rw [e4]; simp [z3]
  have z5 : W5.heap.size = w1.heap.size + 1 + 1 + 1 + 1 + 1 := by rw [e5]; simp [z4]
  have z6 : W6.heap.size = w1.heap.size + 1 + 1 + 1 + 1 + 1 + 1 := by rw [e6]; simp [z5]
  have p1 : Parts W1 (some ⟨w1.heap.size, 0, none⟩) [(5, 99)] := by rw [e1]; exact (parts_lit w1 [(5, 99)] _ rfl (by decide)).1
  have p2 : Parts W2 (some ⟨w1.heap.size + 1, 0, none⟩) [(5, m1), (5, 100)] := by rw [e2, ← z1]; exact (parts_lit W1 [(5, m1), (5, 100)] _ rfl (by simp)).1
  have p3 : Parts W3 (some ⟨w1.heap.size + 1 + 1, 0, none⟩) [(m2, 100)] := by rw [e3, ← z2]; exact (parts_lit W2 [(m2, 100)] _ rfl (by simp)).1
  have p4 : Parts W4 (some ⟨w1.heap.size + 1 + 1 + 1, 0, none⟩) [(m3, 100)] := by rw [e4, ← z3]; exact (parts_lit W3 [(m3, 100)] _ rfl (by simp)).1
  have p5 : Parts W5 (some ⟨w1.heap.size + 1 + 1 + 1 + 1, 0, none⟩) [(0, m4)] := by rw [e5, ← z4]; exact (parts_lit W4 [(0, m4)] _ rfl (by simp)).1
  have p6 : Parts W6 (some ⟨w1.heap.size + 1 + 1 + 1 + 1 + 1, 0, none⟩) [(0, 20), (0, 20), (0, 20), (0, 20), (0, 20)] := by rw [e6, ← z5]; exact (parts_lit W5 [(0, 20), (0, 20), (0, 20), (0, 20), (0, 20)] _ rfl (by simp)).1
  have b1 : Below w1.heap.size w1 W1 := by rw [e1]; exact st _ _
  have b2 : Below W1.heap.size W1 W2 := by rw [e2]; exact st _ _
  have b3 : Below W2.heap.size W2 W3 := by rw [e3]; exact st _ _
  have b4 : Below W3.heap.size W3 W4 := by rw [e4]; exact st _ _
  have b5 : Below W4.heap.size W4 W5 := by rw [e5]; exact st _ _
  have b6 : Below W5.heap.size W5 W6 := by rw [e6]; exact st _ _
  have hW : W = W6.alloc (.cells #[.slice none 0 0, .slice (some ⟨w1.heap.size, 0, none⟩) 1 1, .slice (some ⟨w1.heap.size + 1, 0, none⟩) 2 2, .slice (some ⟨w1.heap.size + 1 + 1, 0, none⟩) 1 1, .slice (some ⟨w1.heap.size + 1 + 1 + 1, 0, none⟩) 1 1, .slice (some ⟨w1.heap.size + 1 + 1 + 1 + 1, 0, none⟩) 1 1, .slice (some ⟨w1.heap.size + 1 + 1 + 1 + 1 + 1, 0, none⟩) 5 5] 24) := by
    show _ = _
    rw [e6, e5, e4, e3, e2, e1]
  have b7 : Below W6.heap.size W6 W := by rw [hW]; exact st _ _
  rw [hW] at b7 ⊢
  rw [← z6]
  clear hW
  have c6 := p6.later b7
  have c5 := p5.later (btr b6 b7)
  have c4 := p4.later (btr b5 (btr b6 b7))
  have c3 := p3.later (btr b4 (btr b5 (btr b6 b7)))
  have c2 := p2.later (btr b3 (btr b4 (btr b5 (btr b6 b7))))
  have c1 := p1.later (btr b2 (btr b3 (btr b4 (btr b5 (btr b6 b7)))))
  refine ⟨?_, btr b1 (btr b2 (btr b3 (btr b4 (btr b5 (btr b6 b7)))))⟩
  intro i r hr
  refine ⟨W6.heap.size, 0, rfl, ?_⟩
  match i, hr with
  | 0, hr => simp [badsL] at hr; subst hr; exact ⟨none, 0, by go_simp, (partsB_nil _).1⟩
  | 1, hr => simp [badsL] at hr; subst hr; exact ⟨_, 1, by go_simp, c1⟩
  | 2, hr => simp [badsL] at hr; subst hr; exact ⟨_, 2, by go_simp, c2⟩
  | 3, hr => simp [badsL] at hr; subst hr; exact ⟨_, 1, by go_simp, c3⟩
  | 4, hr => simp [badsL] at hr; subst hr; exact ⟨_, 1, by go_simp, c4⟩
  | 5, hr => simp [badsL] at hr; subst hr; exact ⟨_, 1, by go_simp, c5⟩
  | 6, hr => simp [badsL] at hr; subst hr; exact ⟨_, 5, by go_simp, c6⟩

def ManyRel (w : World) (a : List (Int × Int)) (v i : Value) (wr : World) : Prop :=
  ∃ k : Nat, k ≤ 24 ∧ i = .int .i64 k ∧ OwnRess wr w.heap.size v (List.replicate k a) ∧ Below w.heap.size w wr

set_option maxRecDepth 100000 in
set_option maxHeartbeats 4000000 in
theorem MatchWrong_any (p wt : Int) (A0 : Option Addr) (c0 : Nat) (l0 : List Int) (n : Int) (w : World) (h0 : SmallOk w p wt A0 c0 l0) (hn : -9223372036854775808 ≤ n ∧ n ≤ 9223372036854775807) (hG : Gets w) :
    Calls Tryd.prog 6 #[.agg #[.int .i16 p, .int .u8 wt, .slice A0 l0.length c0], .int .i64 n] w fun e w' => e = .returned (.bool true) ∧ Below w.heap.size w w' := by
  have HM := Sec.mk fun (w' : World) (h : Below w.heap.size w w') => Made_ok (h0.later h)
  have ra := Sec.mk (made_right p wt l0 h0.2.1.1)
  have la := (made_len p wt l0).2.1
  have HG := Sec.mk hG
  obtain ⟨i0, hi, hz0, hz1, hz2⟩ := info_parts infoRes
  have HI := Sec.mk hi
  have Z0 := Sec.mk hz0
  have Z1 := Sec.mk hz1
  have Z2 := Sec.mk hz2
  clear h0 hG hi hz0 hz1 hz2
  generalize madeR p wt l0 = a at *
  go_enter Tryd.func6, Tryd.ntmps6
  go_wp2_with fail
  refine (HM.out _ ((Below.refl _ _).alloc (Nat.le_refl _) _)).mono ?_
  rintro e w1 ⟨A, c, rfl, hA, hb1⟩
  have hB1 : Below w.heap.size w w1 := btr ((Below.refl _ _).alloc (Nat.le_refl _) _) hb1
  have HA := Sec.mk hA
  have HB1 := Sec.mk hB1
  clear HM hA hb1 hB1
  obtain ⟨M1, hM1, b1⟩ : ∃ M, (if 0 < n then 0 else n) = M ∧ M ≤ 0 := ⟨_, rfl, by split <;> omega⟩
  obtain ⟨M2, hM2, b2⟩ : ∃ M, (if n < 10001 then 10001 else n) = M ∧ 10001 ≤ M := ⟨_, rfl, by split <;> omega⟩
  obtain ⟨M3, hM3, b3⟩ : ∃ M, (if -10001 < n then -10001 else n) = M ∧ M ≤ -10001 := ⟨_, rfl, by split <;> omega⟩
  obtain ⟨M4, hM4, b4⟩ : ∃ M, (if n < 101 then 101 else n) = M ∧ 101 ≤ M := ⟨_, rfl, by split <;> omega⟩
  go_wp2_with fail
  obtain ⟨w2, g0, e1, e2, hBads, hBd⟩ := bads_lay w1 M1 M2 M3 M4
  rw [← e1, ← e2]
  have hwr := Sec.mk (bads_wrong b1 b2 b3 b4)
  have hL7 : (badsL M1 M2 M3 M4).length = 7 := rfl
  have HBads := Sec.mk hBads
  have HB2 := Sec.mk (btr HB1.out hBd)
  have HA2 := Sec.mk (HA.out.later hBd)
  clear hM1 hM2 hM3 hM4 b1 b2 b3 b4 hn e1 e2 hBads hBd HA HB1
  generalize badsL M1 M2 M3 M4 = L at *
  have HL7 := Sec.mk hL7
  clear hL7
  go_loopw [52] (fun i wr => LoopRel w2 7 i wr) (fun i _ => 7 - (intOf i).toNat)
  case atStart => exact ⟨0, Nat.zero_le _, rfl, Below.refl _ _⟩
  case round =>
    obtain ⟨k, hk, rfl, hB⟩ := hrel
    by_cases hlt : k < 7
    · obtain ⟨r, hp⟩ : ∃ r, L[k]? = some r := ⟨_, List.getElem?_eq_getElem (by rw [HL7.out]; exact hlt)⟩
      obtain ⟨b, o, e, Ai, ci, h1, h2⟩ := HBads.out.later hB k r hp
      cases e
      rw [Nat.zero_add] at h1
      obtain ⟨hr, hr5⟩ := hwr.out r (List.mem_of_getElem? hp)
      have hla : a.length ≤ 140737488351232 := by omega
      have hlr : r.length ≤ 140737488351232 := by omega
      have HA3 := Sec.mk (HA2.out.later hB)
      have HC1 := Sec.mk fun (w' : World) (h : Below wr.heap.size wr w') => Turn_wrong Ai ci r w' (h2.later h) hlr hr
      have HC2 := Sec.mk fun (w' : World) (h : Below wr.heap.size wr w') => Compare_wrong A Ai c ci a r w' (HA3.out.1.later h) (h2.later h) hla hlr (by rw [hr, Bool.and_false])
      have HC3 := Sec.mk fun (w' : World) (h : Below wr.heap.size wr w') => Compare_wrong Ai A ci c r a w' (h2.later h) (HA3.out.1.later h) hlr hla (by rw [hr, Bool.false_and])
      have HC4 := Sec.mk fun (w' : World) (g : Nat) (h : Below wr.heap.size wr w') (hg : g = w'.heap.size) => points_two_wrong w' A Ai a r c ci g hg (HA3.out.1.later h) (h2.later h) hla hlr hr
      have HC5 := Sec.mk fun (w' : World) (h : Below wr.heap.size wr w') => right_any_len Ai ci r w' (h2.later h) hlr
      rw [hr] at HC5
      have HBk := Sec.mk hB
      clear hp h2 hr hr5 hla hlr hB
      go_wp2_with fail
      refine (HC1.out _ (Below.refl _ _)).mono ?_
      rintro e w3 ⟨rfl, hb3⟩
      go_wp2_with fail
      refine (HC2.out _ hb3).mono ?_
      rintro e w4 ⟨rfl, hb4⟩
      have hB4 := (btr hb3 hb4).alloc (btr hb3 hb4).size (.cells #[.int .i64 0, .int .i64 0] 46)
      go_wp2_with fail
      refine (HC3.out _ hB4).mono ?_
      rintro e w5 ⟨rfl, hb5⟩
      have hB5 := (btr hB4 hb5).alloc (btr hB4 hb5).size (.cells #[.int .i64 0, .int .i64 0] 46)
      clear hb3 hb4 hb5 hB4
      go_wp2_with fail
      refine (HC4.out _ _ hB5 (by simp)).mono ?_
      rintro e w7 ⟨rfl, hb7⟩
      have hB7 := btr hB5 hb7
      clear hb7 hB5
      go_wp2_with fail
      refine (HC5.out _ hB7).mono ?_
      rintro e w8 ⟨rfl, hb8⟩
      have hB8 := btr HBk.out (btr hB7 hb8)
      clear hb8 hB7
      go_wp2_with fail
      exact ⟨⟨k + 1, hlt, rfl, hB8⟩, by simp only [intOf]; omega⟩
    · have hki : ¬ (k : Int) < 7 := by omega
      have HAw := Sec.mk (HA2.out.later hB)
      have HBw := Sec.mk (btr HB2.out hB)
      rename World => w5
      clear hB HA2 HBads hwr HL7 HB2
      go_wp2_with fail
      go_loopw [16, 102] (fun v i wr => ManyRel w5 a v i wr) (fun _ i _ => 24 - (intOf i).toNat)
      case atStart => exact ⟨0, Nat.zero_le _, rfl, OwnRess.nil _ _, Below.refl _ _⟩
      case round =>
        obtain ⟨m, hm, rfl, hown, hB⟩ := hrel
        by_cases hmt : m < 24
        · have HRp : Sec (List.replicate (m + 1) a = List.replicate m a ++ [a]) := ⟨List.replicate_succ'⟩
          have hlen : (List.replicate m a).length = m := by simp
          have hBs := hB.size
          have HN : OwnRess (wr.alloc (.cells #[.slice A a.length c] 24)) w5.heap.size u16 (List.replicate m a) := hown.later ((Below.refl _ _).alloc (Nat.le_refl _) _)
          have HPB := Sec.mk ((HAw.out.later hB).later ((Below.refl _ _).alloc (Nat.le_refl _) (.cells #[.slice A a.length c] 24)))
          obtain ⟨vs, hvs, hvs2⟩ := HN
          have HO := Sec.mk hvs
          have HO2 := Sec.mk hvs2
          have HL := Sec.mk hlen
          have HB := Sec.mk hB
          clear hvs hvs2 hlen hown hB
          go_wp2_with (at_builtin; refine wpList_append_own _ rfl _ _ 22 rfl w5.heap.size 24 i0 _ 1 24 Tryd.underlying22 HI.out Z0.out Z1.out Z2.out rfl (by decide) _ _ _ rfl HO.out ⟨wr.heap.size, 0, none⟩ 1 1 [.slice A a.length c] rfl rfl ?c1 ?c2 ?c3 ?c4 ?c5 ?_)
          case c1 => exact news1 _ (by simp)
          case c2 => intro u hu; simp at hu; subst hu; rfl
          case c3 => rw [HL.out]; unfold maxLen; omega
          case c4 => rw [HL.out]; omega
          case c5 => simp; omega
          intro v' w3 hown' hgrow _
          have hR : OwnRess w3 w5.heap.size v' (List.replicate (m + 1) a) := by
            rw [HRp.out]
            exact OwnRess.push (Ai := A) (ci := c) HO.out HO2.out HPB.out (by first | exact hown' | (rw [HL.out]; exact hown')) hgrow
          have hB2 : Below w5.heap.size w5 w3 := (HB.out.alloc hBs _).grown hgrow (by simp; omega) (fun k hk => (HO.out.lt k hk).1)
          have HR' := Sec.mk hR
          clear hown' hgrow hR
          go_wp2_with fail
          exact ⟨⟨m + 1, hmt, rfl, HR'.out, hB2⟩, by simp only [intOf]; omega⟩
        · have hm0 : m = 24 := by omega
          subst hm0
          obtain ⟨A6, c6, hv, hR6⟩ := hown.ress
          subst hv
          rename World => w6
          have HA6 := Sec.mk (HAw.out.later hB)
          have HB6 := Sec.mk (btr HBw.out hB)
          have HB56 := Sec.mk hB
          have HP := Points_right A6 c6 _ w6 hR6 (HG.out.later HB6.out) (many_right ra.out 24) (by simp)
          rw [many_points ra.out, List.length_replicate, List.length_replicate] at HP
          have HP' := Sec.mk HP
          have HO6 := Sec.mk hown
          rw [List.length_replicate]
          rw [List.length_replicate] at HO6
          clear HP hR6 hB hown HAw
          go_wp2_with fail
          refine HP'.out.mono ?_
          rintro e w7 ⟨v7, rfl, hO7, hb7⟩
          obtain ⟨A7, c7, rfl, hP7, hge7⟩ := parts_of_own (r := List.replicate 24 ((23 : Int), (1 : Int))) (by rw [List.length_replicate]; exact hO7)
          rw [List.length_replicate]
          obtain ⟨b7, o7, rfl, q1, q2⟩ := hP7 0 (23, 1) (by simp)
          have hge := hge7 _ rfl
          simp only at hge
          have hlt6 : Sec (∀ g, (Value.slice A6 24 c6).ownBlock = some g → g < w6.heap.size) := ⟨by
            obtain ⟨_, h, _⟩ := HO6.out
            exact fun g hg => (h.lt g hg).2⟩
          simp only [Nat.zero_mul, Nat.add_zero] at q1 q2
          have HB7 := Sec.mk (btr HB6.out hb7)
          have hB57 := btr HB56.out hb7
          have hB57s := hB57.size
          have hl6 := HO6.out.later hb7
          have hA7 := HA6.out.later hb7
          have HN : OwnRess (w7.alloc (.cells #[.slice A a.length c] 24)) w5.heap.size (.slice A6 24 c6) (List.replicate 24 a) := hl6.later ((Below.refl _ _).alloc (Nat.le_refl _) _)
          have HPB := Sec.mk (hA7.later ((Below.refl _ _).alloc (Nat.le_refl _) (.cells #[.slice A a.length c] 24)))
          obtain ⟨vs, hvs, hvs2⟩ := HN
          rw [List.length_replicate] at hvs
          have HO := Sec.mk hvs
          have HO2 := Sec.mk hvs2
          have HB57 := Sec.mk hB57
          have Q1 := Sec.mk q1
          have Q2 := Sec.mk q2
          clear hvs hvs2 hl6 hA7 hb7 hP7 hO7 HP' HO6 HA6 HB6 HB56 hB57 q1 q2
          go_wp2_with (at_builtin; refine wpList_append_keep _ rfl _ _ 22 rfl w5.heap.size 24 i0 _ 1 24 Tryd.underlying22 HI.out Z0.out Z1.out Z2.out rfl (by decide) _ _ _ rfl HO.out ⟨w7.heap.size, 0, none⟩ 1 1 [.slice A a.length c] rfl rfl ?c1 ?c2 ?c3 ?c4 ?c5 ?_)
          case c1 => exact news1 _ (by simp)
          case c2 => intro u hu; simp at hu; subst hu; rfl
          case c3 => unfold maxLen; omega
          case c4 => omega
          case c5 => simp; omega
          intro v' w8 hown' hgrow hkeep
          have hR25 : OwnRess w8 w5.heap.size v' (List.replicate 24 a ++ [a]) := OwnRess.push (Ai := A) (ci := c) (by rw [List.length_replicate]; exact HO.out) HO2.out HPB.out (by rw [List.length_replicate]; exact hown') hgrow
          have hK24 := OwnRess.keep (l := List.replicate 24 a) (by rw [List.length_replicate]; exact HO.out) HO2.out (by rw [List.length_replicate]; exact hkeep) hgrow
          have hA8 := HPB.out.grownRes HO.out hgrow
          have hB58 : Below w5.heap.size w5 w8 := (HB57.out.alloc HB57.out.size _).grown hgrow (by simp; omega) (fun k hk => (HO.out.lt k hk).1)
          have h7 : Below w7.heap.size w7 (w7.alloc (.cells #[.slice A a.length c] 24)) := (Below.refl _ _).alloc (Nat.le_refl _) _
          have hne : some b7 ≠ (Value.slice A6 24 c6).ownBlock := fun e => by have := hlt6.out b7 e.symm; omega
          have Q3 := Sec.mk (hgrow.cell (cell_later h7 Q1.out) hne)
          have Q4 := Sec.mk (hgrow.cell (cell_later h7 Q2.out) hne)
          obtain ⟨A8, c8, hv8, hR8⟩ := hR25.ress
          subst hv8
          have hl25 : (List.replicate 24 a ++ [a]).length = 25 := by simp
          have HPm := Points_many A8 c8 _ w8 hR8 (by rw [hl25]; omega) (by intro x hx; simp at hx; rcases hx with rfl | rfl <;> omega) (by have := many_right ra.out 25; rw [List.replicate_succ'] at this; exact this) (by rw [hl25]; omega)
          rw [hl25] at HPm
          rw [hl25]
          have HPm' := Sec.mk HPm
          have HK := Sec.mk hK24
          have HA8 := Sec.mk hA8
          have HB58 := Sec.mk hB58
          have hbl8 := hgrow.size
          simp only [World.size_alloc] at hbl8
          clear hown' hgrow hkeep hR25 hK24 hA8 hB58 h7 HPm hR8 Q1 Q2 HO HO2 HPB HB57
          go_wp2_with fail
          refine HPm'.out.mono ?_
          rintro e w9 ⟨rfl, hb9⟩
          have Q5 := Sec.mk (cell_later hb9 Q3.out)
          have Q6 := Sec.mk (cell_later hb9 Q4.out)
          have HK9 := HK.out.later hb9
          have hB59 := btr HB58.out hb9
          have hB59s := hB59.size
          have HN : OwnRess (w9.alloc (.cells #[.slice A a.length c, .slice none 0 0] 24)) w5.heap.size (.slice A6 24 c6) (List.replicate 24 a) := HK9.later ((Below.refl _ _).alloc (Nat.le_refl _) _)
          have HPB := Sec.mk ((HA8.out.later hb9).later ((Below.refl _ _).alloc (Nat.le_refl _) (.cells #[.slice A a.length c, .slice none 0 0] 24)))
          obtain ⟨vs2, hvs, hvs2⟩ := HN
          rw [List.length_replicate] at hvs
          have HO := Sec.mk hvs
          have HO2 := Sec.mk hvs2
          have HB59 := Sec.mk hB59
          have hbl9 := hb9.size
          clear hvs hvs2 HK9 hb9 hB59 HPm' HK HA8 HB58 Q3 Q4
          go_wp2_with (at_builtin; refine wpList_append_own _ rfl _ _ 22 rfl w5.heap.size 24 i0 _ 1 24 Tryd.underlying22 HI.out Z0.out Z1.out Z2.out rfl (by decide) _ _ _ rfl HO.out ⟨w9.heap.size, 0, none⟩ 2 2 [.slice A a.length c, .slice none 0 0] rfl rfl ?d1 ?d2 ?d3 ?d4 ?d5 ?_)
          case d1 => exact news2 _ (by simp)
          case d2 => intro u hu; simp at hu; rcases hu with rfl | rfl <;> rfl
          case d3 => unfold maxLen; omega
          case d4 => omega
          case d5 => simp; omega
          intro v' w10 hown' hgrow _
          have hR26 : OwnRess w10 w5.heap.size v' (List.replicate 24 a ++ [a, []]) := OwnRess.more (ws := [.slice A a.length c, .slice none 0 0]) (by rw [List.length_replicate]; exact HO.out) HO2.out (by
            intro i r hr
            match i, hr with
            | 0, hr => simp at hr; subst hr; exact ⟨A, c, rfl, HPB.out⟩
            | 1, hr => simp at hr; subst hr; exact ⟨none, 0, rfl, partsB_nil _⟩) (by rw [List.length_replicate]; exact hown') hgrow
          have hB510 : Below w5.heap.size w5 w10 := (HB59.out.alloc HB59.out.size _).grown hgrow (by simp; omega) (fun k hk => (HO.out.lt k hk).1)
          have h9 : Below w9.heap.size w9 (w9.alloc (.cells #[.slice A a.length c, .slice none 0 0] 24)) := (Below.refl _ _).alloc (Nat.le_refl _) _
          have Q7 := Sec.mk (hgrow.cell (cell_later h9 Q5.out) hne)
          have Q8 := Sec.mk (hgrow.cell (cell_later h9 Q6.out) hne)
          have HA10 := Sec.mk (HPB.out.grownRes HO.out hgrow)
          obtain ⟨A10, c10, hv10, hR10⟩ := hR26.ress
          subst hv10
          have hl26 : (List.replicate 24 a ++ [a, []]).length = 26 := by simp
          have HPw := Points_wrong A10 c10 _ w10 hR10 (by rw [hl26]; omega) (by intro x hx; simp at hx; rcases hx with rfl | rfl | rfl <;> (try simp only [List.length_nil]) <;> omega) (by
            rw [List.any_append]
            have : ([a, []] : List (List (Int × Int))).any (fun r => !rightR r) = true := by simp [rightR]
            rw [this, Bool.or_true])
          rw [hl26] at HPw
          rw [hl26]
          have HPw' := Sec.mk HPw
          have HB10 := Sec.mk (btr HBw.out hB510)
          clear hown' hgrow hR26 hB510 h9 HPw hR10 Q5 Q6 HO HO2 HPB HB59 hge7 hlt6
          go_wp2_with fail
          refine HPw'.out.mono ?_
          rintro e w11 ⟨rfl, hb11⟩
          have q1 := cell_later hb11 Q7.out
          have q2 := cell_later hb11 Q8.out
          have HB11 := Sec.mk (btr HB10.out hb11)
          have HR := Sec.mk fun (w' : World) (h : Below w11.heap.size w11 w') => right_any_len A c a w' ((HA10.out.1.later hb11).later h) (by omega)
          rw [ra.out] at HR
          have HW := Sec.mk fun (w' : World) (h : Below w11.heap.size w11 w') => awake_true w' (HG.out.later (btr HB11.out h))
          have hBx := Below.refl w11.heap.size w11
          clear hb11 Q7 Q8 HA10 HB10 HPw'
          go_wp2_with fail
          go_region_held3 (fun w' => w'.cell? ⟨b7, o7, none⟩ = some (.int .i64 23) ∧ w'.cell? ⟨b7, o7 + 1, none⟩ = some (.int .i64 1))
            (first | assumption | exact ⟨q1, q2⟩ | exact ⟨cell_later hBx q1, cell_later hBx q2⟩)
            ((first
              | (go_at_call 29; refine (whole_any _ _).mono ?_; rintro e w12 ⟨rfl, hb8⟩; have hBx : Below w11.heap.size w11 w12 := btr (by repeat (first | exact hBx | refine Below.drew ?_ | refine below_drewN ?_ _)) hb8)
              | (go_at_call 23; refine (HR.out _ ?_).mono ?_; (repeat (first | exact hBx | refine Below.drew ?_ | refine below_drewN ?_ _)); rintro e w13 ⟨rfl, hb8⟩; have hBx : Below w11.heap.size w11 w13 := btr (by repeat (first | exact hBx | refine Below.drew ?_ | refine below_drewN ?_ _)) hb8)
              | (go_at_call 10; refine (HW.out _ ?_).mono ?_; (repeat (first | exact hBx | refine Below.drew ?_ | refine below_drewN ?_ _)); rintro e w14 ⟨rfl, hb8⟩; have hBx : Below w11.heap.size w11 w14 := btr (by repeat (first | exact hBx | refine Below.drew ?_ | refine below_drewN ?_ _)) hb8)))
          all_goals go_wp2_with fail
          all_goals go_ret
          all_goals exact ⟨rfl, btr HB11.out hBx⟩
end Go.Proofs.YtfajnggdlhbgnaaDoor
