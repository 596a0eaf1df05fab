/- adjust: rights, the shares, Right. -/
import Derived.Test.YtojgjpegfkfnjaaDoorAdjB
import Derived.Laws.EntriesVeiled
import Derived.Deep.RegionHeld3
namespace Go.Proofs.YtojgjpegfkfnjaaDoor
open Go.RowKit
set_option linter.unusedVariables false
set_option linter.unusedSimpArgs false
set_option maxRecDepth 100000

abbrev fnV (k : Nat) : Value := .func (.func k) #[] #[]
abbrev kindsV : Value := .agg #[fnV 68, fnV 70, fnV 72, fnV 73, fnV 74]
set_option maxHeartbeats 1000000 in
theorem rights_any (w : World) : Calls Tryd.prog 39 #[] w fun e w' => e = .returned kindsV ∧ Below w.heap.size w w' := by
  go_enter Tryd.func39, Tryd.ntmps39
  go_wp2_with fail
  exact bodyPost_ret (v := kindsV) (by simp [results, Tryd.results39, go_sem]) rfl ⟨rfl, sst1 _ _⟩
def IxI (w : World) (x : Int) (l : List Int) (i : Value) (wr : World) : Prop := ∃ k : Nat, k ≤ l.length ∧ i = .int .i64 k ∧ Sec (∀ j y, j < k → l[j]? = some y → (x == y) = false) ∧ wr = w
set_option maxHeartbeats 400000 in
theorem index_ints (b o c : Nat) (x : Int) (l : List Int) (w : World) (hA : ∀ i y, l[i]? = some y → w.cell? ⟨b, o + i, none⟩ = some (.int .i64 y)) (hl : l.length ≤ 1000) :
    Calls Tryd.prog 75 #[.slice (some ⟨b, o, none⟩) l.length c, .int .i64 x] w fun e w' => e = .returned (.int .i64 (firstIx (fun y => x == y) l)) ∧ w = w' := by
  have HA := Sec.mk hA
  clear hA
  go_enter Tryd.func75, Tryd.ntmps75
  go_wp2_with fail
  go_loopw [8] (fun i wr => IxI w x l i wr) (fun i _ => l.length - (intOf i).toNat)
  case atStart => exact ⟨0, Nat.zero_le _, rfl, ⟨fun j y hj => by omega⟩, rfl⟩
  case round =>
    obtain ⟨k, hk, rfl, hpre, rfl⟩ := hrel
    by_cases hlt : k < l.length
    · obtain ⟨y, hy⟩ : ∃ y, l[k]? = some y := ⟨_, List.getElem?_eq_getElem hlt⟩
      have hc := HA.out k y hy
      have HP := Sec.mk hy
      clear hy
      have hkk : (k : Int) < (l.length : Int) := by omega
      cases hxy : (x == y)
      · have HX := Sec.mk hxy
        go_wp2_with fail
        refine ⟨⟨k + 1, hlt, rfl, ⟨fun j z hj hz => ?_⟩, rfl⟩, by simp only [intOf]; omega⟩
        rcases Nat.lt_or_ge j k with h | h
        · exact hpre.out j z h hz
        · obtain rfl : j = k := by omega
          rw [HP.out] at hz; cases hz; exact HX.out
      · have HX := Sec.mk hxy
        go_wp2_with fail
        go_ret
        exact ⟨ret_i (firstIx_at (fun y => x == y) l k y HP.out HX.out hpre.out).symm, rfl⟩
    · have hk0 : k = l.length := by omega
      have HE := Sec.mk (firstIx_none (fun y => x == y) l (hk0 ▸ hpre.out))
      clear hk0
      go_wp2_with fail
      go_ret
      exact ⟨ret_i HE.out.symm, rfl⟩
/-- What can be awarded. -/
def shL : List Int := [0, 30, 40, 50, 60, 70, 100]
def shareB (x : Int) : Bool := shL.any fun y => x == y
/-- The table of what can be awarded lies there. -/
def Shares (w : World) : Prop := ∃ b o c, w.cell? ⟨0, 0, none⟩ = some (.slice (some ⟨b, o, none⟩) 7 c) ∧ ∀ i y, shL[i]? = some y → w.cell? ⟨b, o + i, none⟩ = some (.int .i64 y)
theorem Shares.later {w w' : World} (h : Shares w) (hb : Below w.heap.size w w') : Shares w' := let ⟨b, o, c, h1, h2⟩ := h; ⟨b, o, c, sc_later hb h1, fun i y hy => sc_later hb (h2 i y hy)⟩
theorem contains_sh (b o c : Nat) (x : Int) (w : World) (hA : ∀ i y, shL[i]? = some y → w.cell? ⟨b, o + i, none⟩ = some (.int .i64 y)) :
    Calls Tryd.prog 40 #[.slice (some ⟨b, o, none⟩) 7 c, .int .i64 x] w fun e w' => e = .returned (.bool (shareB x)) ∧ w = w' := by
  have HI0 : Calls Tryd.prog 75 #[.slice (some ⟨b, o, none⟩) 7 c, .int .i64 x] w fun e w' => e = .returned (.int .i64 (firstIx (fun y => x == y) shL)) ∧ w = w' := index_ints b o c x shL w hA (by decide)
  have HI := Sec.mk HI0
  have HG : Sec (decide (0 ≤ firstIx (fun y => x == y) shL) = shareB x) := ⟨firstIx_geq _ shL⟩
  clear HI0 hA
  generalize firstIx (fun y => x == y) shL = ix at *
  go_enter Tryd.func40, Tryd.ntmps40
  go_wp2_with fail
  refine HI.out.mono ?_; rintro e w1 ⟨rfl, rfl⟩
  go_wp2_with fail
  go_ret
  exact ⟨ret_b HG.out, rfl⟩
/-- What is right of the outcomes of an entry of its kind. -/
def kindB (e : En) : Bool := if e.k = 0 then noneB e.outs else if e.k = 1 then someB false (e.outs.take 1) && noneB (e.outs.drop 1) else if e.k = 2 then wtdB e else if e.k = 3 then someB false (e.outs.take 2) && noneB (e.outs.drop 2) else noneB e.outs
/-- The content of an entry is right. -/
def rightE (e : En) : Bool := decide (e.k ≤ 4) && decide (e.f ≤ 3) && kindB e && (if e.k = 4 then shareB e.a && shareB e.b else (e.a == 0) && (e.b == 0))
theorem en_cell {W : World} {g : Nat} {e : En} (h : RowAt W g (enV e)) (k : Nat) (v : Value) (hk : (enC e)[k]? = some v) : W.cell? ⟨g, k, none⟩ = some v := (h k v (by unfold enV; simpa using hk)).1
def kindF (k : Nat) : Nat := if k = 0 then 68 else if k = 1 then 70 else if k = 2 then 72 else if k = 3 then 73 else 74
theorem kind_any (e : En) (K : Nat) (hK : e.k = (K : Int)) (h4 : K ≤ 4) (he : e.ok) (w : World) : Calls Tryd.prog (kindF K) #[.agg (enV e)] w fun e' w' => e' = .returned (.bool (kindB e)) ∧ Below w.heap.size w w' := by
  have h5 : K = 0 ∨ K = 1 ∨ K = 2 ∨ K = 3 ∨ K = 4 := by omega
  unfold kindB
  rw [hK]
  rcases h5 with rfl | rfl | rfl | rfl | rfl
  · exact rights1_any e w
  · exact rights2_any e w he
  · exact rights3_any e w he
  · exact rights4_any e w he
  · exact rights5_any e w
theorem cfKind (K : Nat) (h4 : K ≤ 4) : ∀ (args : Array Value) (w : World), (callFunc (kindF K) args).run Tryd.prog w = .ok (.enter (kindF K) args) w := by
  have h5 : K = 0 ∨ K = 1 ∨ K = 2 ∨ K = 3 ∨ K = 4 := by omega
  rcases h5 with rfl | rfl | rfl | rfl | rfl <;> exact fun _ _ => by kernel_rfl
theorem index_kind (K : Nat) (h4 : K ≤ 4) (w : World) : (Instr.index 85 kindsV (.int .u8 (K : Int))).run Tryd.prog w = .ok (fnV (kindF K)) w := by
  have h5 : K = 0 ∨ K = 1 ∨ K = 2 ∨ K = 3 ∨ K = 4 := by omega
  rcases h5 with rfl | rfl | rfl | rfl | rfl <;> simp [Instr.index, asIntOf, run_underlying Tryd.underlying85, go_sem, kindF]
end Go.Proofs.YtojgjpegfkfnjaaDoor
