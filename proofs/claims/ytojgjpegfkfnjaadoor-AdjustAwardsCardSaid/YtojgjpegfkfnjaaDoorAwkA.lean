/- chapter 22: awake. -/
import Derived.Test.YtojgjpegfkfnjaaDoorAdjH
import Derived.Laws.Tables
namespace Go.Proofs.YtojgjpegfkfnjaaDoor
open Go.RowKit
set_option linter.unusedVariables false
set_option linter.unusedSimpArgs false
set_option maxRecDepth 100000

set_option maxHeartbeats 1000000 in
theorem spades_any (l n wt : Int) (w : World) : Calls Tryd.prog 24 #[.int .u8 l, .int .i64 n, .int .i64 wt] w fun e w' => e = .returned (ocV ⟨l, 3, 0, 0, n, wt⟩) ∧ Below w.heap.size w w' := by
  go_enter Tryd.func24, Tryd.ntmps24
  go_wp2_with fail
  exact bodyPost_ret (v := ocV ⟨l, 3, 0, 0, n, wt⟩) (by simp [results, Tryd.results24, go_sem]) rfl ⟨rfl, by first | exact sst1 _ _ | exact sbtr (sst1 _ _) (sst1 _ _)⟩
theorem q22_any (n d : Int) (w : World) : Calls Tryd.prog 26 #[.int .i64 n, .int .i64 d] w fun e w' => e = .returned (.agg #[.int .i64 n, .int .i64 d]) ∧ Below w.heap.size w w' := by
  go_enter Tryd.func26, Tryd.ntmps26
  go_wp2_with fail
  exact bodyPost_ret (v := .agg #[.int .i64 n, .int .i64 d]) (by simp [results, Tryd.results26, go_sem]) rfl ⟨rfl, by first | exact sst1 _ _ | exact sbtr (sst1 _ _) (sst1 _ _)⟩
set_option maxHeartbeats 1000000 in
theorem is22_any (A : Option Addr) (c : Nat) (r : List (Int × Int)) (p : Int) (w : World) (hA : Parts w A r) (hr : r = [(p, 100)]) : Calls Tryd.prog 43 #[.slice A r.length c, .int .i64 p] w fun e w' => e = .returned (.bool true) ∧ Below w.heap.size w w' := by
  subst hr
  obtain ⟨b, o, rfl, h1, h2⟩ := hA 0 (p, 100) rfl
  simp only [Nat.zero_mul, Nat.add_zero] at h1 h2
  clear hA
  go_enter Tryd.func43, Tryd.ntmps43
  go_wp2_with fail
  go_ret
  exact ⟨by simp, Below.refl _ _⟩
/-- No outcome; no entry. -/
def zO : Oc := ⟨0, 0, 0, 0, 0, 0⟩
def mkE (k : Int) (a b : Oc) (x y : Int) : En := ⟨0, 0, 0, 0, k, 0, false, a, b, zO, zO, x, y⟩
def zE : En := mkE 0 zO zO 0 0
def outsV (a b : Oc) : Array Value := (ocC a ++ (ocC b ++ (ocC zO ++ ocC zO))).toArray
theorem zero_en (w : World) : (zeroValue 29).run Tryd.prog w = .ok (.agg (enV zE)) w := by
  have h : (Tryd.prog.info? 29).map (·.zero) = some (some (.agg (enV zE))) := by kernel_rfl
  obtain ⟨i, hi, hz⟩ := Option.map_eq_some_iff.1 h
  simp [zeroValue, typeInfo, Sem.run_bind, run_program, Result.andThen, hi, hz]
/-- A build, of a plain region. -/
theorem wpList_build {P : Program} {ops : Array Oper} {rest : List Oper} {op : Oper} {a : Act} {w : World} {Q : Exit → Act → World → Prop} (hgd : op.guard = none) (ty : TypeId) (parts : Array (Nat × Operand)) (ho : op.op = .build ty parts)
    (vs : Array (Nat × Value)) (hv : parts.map (fun x => (x.1, a.eval x.2)) = vs) (cells : Array Value) (hc : P.built ty vs.toList = some cells) (h : wpList P ops Q rest (a.put op.dst (.agg cells)) w) : wpList P ops Q (op :: rest) a w :=
  wpList_plain hgd fun _ hK => by
    have hr := run_build (P := P) w ty vs cells hc
    rw [← hv] at hr
    unfold Oper.wp execOp
    simp only [ho, Sem.run_bind, Sem.run_pure, Result.andThen_ok]
    simp only [hr, Result.andThen_ok, Oper.upon]
    exact hK _ _ h
theorem en_put (w : World) (e z : En) : ∃ W g, W = (w.alloc (.cells (enV z) 29)).setCells w.heap.size 0 (enV e).toList ∧ g = w.heap.size ∧ RowAt W g (enV e) ∧ Below w.heap.size w W :=
  ⟨_, _, rfl, rfl, (row_new w (enV z) 29).stored (by rw [enV_size, enV_size]), row_below _ (Nat.le_refl _) _ _ _ (sst1 _ _)⟩
theorem en_there (w : World) (e z : En) : (w.alloc (.cells (enV z) 29)).there w.heap.size 0 (enV e).size := (row_new w (enV z) 29).there (by rw [enV_size, enV_size])
theorem en_si (e : En) : (Tryd.prog.info? 29).map (·.size) = some (enV e).size := by rw [enV_size]; exact infoEn
theorem mkE_ok {k : Int} {a b : Oc} {x y : Int} (hk : 0 ≤ k ∧ k ≤ 255) (ha : a.ok) (hb : b.ok) (hx : I64 x) (hy : I64 y) : (mkE k a b x y).ok := by
  have hz : zO.ok := by unfold zO Oc.ok Byt4; decide
  have h0 : I64 0 := by decide
  exact ⟨h0, h0, h0, h0, hk, (by decide : (0 : Int) ≤ 0 ∧ (0 : Int) ≤ 255), ha, hb, hz, hz, hx, hy⟩
def sp (l n wt : Int) : Oc := ⟨l, 3, 0, 0, n, wt⟩
def ex1 : En := mkE 1 (sp 2 8 0) zO 0 0
def ex2 : En := mkE 2 (sp 4 10 60) (sp 4 9 40) 0 0
def ex3 : En := mkE 3 (sp 4 10 0) (sp 4 9 0) 0 0
def ex4 : En := mkE 4 zO zO 60 40
theorem sp_ok {l n wt : Int} (hl : 0 ≤ l ∧ l ≤ 255) (hn : I64 n) (hw : I64 wt) : (sp l n wt).ok := by unfold sp Oc.ok Byt4; dsimp only; exact ⟨by omega, hn, hw⟩
theorem zO_ok : zO.ok := by unfold zO Oc.ok Byt4; decide
theorem ex1_ok : ex1.ok := mkE_ok (by omega) (sp_ok (by omega) (by unfold I64; omega) (by unfold I64; omega)) zO_ok (by unfold I64; omega) (by unfold I64; omega)
theorem ex2_ok : ex2.ok := mkE_ok (by omega) (sp_ok (by omega) (by unfold I64; omega) (by unfold I64; omega)) (sp_ok (by omega) (by unfold I64; omega) (by unfold I64; omega)) (by unfold I64; omega) (by unfold I64; omega)
theorem ex3_ok : ex3.ok := mkE_ok (by omega) (sp_ok (by omega) (by unfold I64; omega) (by unfold I64; omega)) (sp_ok (by omega) (by unfold I64; omega) (by unfold I64; omega)) (by unfold I64; omega) (by unfold I64; omega)
theorem ex4_ok : ex4.ok := mkE_ok (by omega) zO_ok zO_ok (by unfold I64; omega) (by unfold I64; omega)
theorem zE_ok : zE.ok := mkE_ok (by omega) zO_ok zO_ok (by unfold I64; omega) (by unfold I64; omega)
theorem ex1_r : rightE ex1 = true := by kernel_rfl
theorem ex2_r : rightE ex2 = true := by kernel_rfl
theorem ex3_r : rightE ex3 = true := by kernel_rfl
theorem ex4_r : rightE ex4 = true := by kernel_rfl
theorem zE_r : rightE zE = true := by kernel_rfl
theorem ex1_n : sideN ex1 0 = [(110, 100)] := by kernel_rfl
theorem ex1_o : (sideO ex1 0).map turnP = [(-110, 100)] := by kernel_rfl
theorem ex3_n : sideN ex3 0 = [(420, 100)] := by kernel_rfl
theorem ex3_o : (sideO ex3 0).map turnP = [(50, 100)] := by kernel_rfl
theorem ex2_m : meanN (sideN ex2 0) = 23200 := by kernel_rfl
theorem ex2_o : meanN ((sideO ex2 0).map turnP) = -23200 := by kernel_rfl
theorem q232 : (((23200 : Int) : Rat) / ((100 : Int) : Rat)).num = 232 ∧ ((((23200 : Int) : Rat) / ((100 : Int) : Rat)).den : Int) = 1 := by decide +kernel
theorem q232' : (((-23200 : Int) : Rat) / ((100 : Int) : Rat)).num = -232 ∧ ((((-23200 : Int) : Rat) / ((100 : Int) : Rat)).den : Int) = 1 := by decide +kernel
theorem q24 : (shareQ 60 5).num = 24 ∧ ((shareQ 60 5).den : Int) = 5 := by decide +kernel
theorem q16 : (shareQ 40 5).num = 16 ∧ ((shareQ 40 5).den : Int) = 5 := by decide +kernel
/-- The calls of the chapter's examples. -/
theorem call1 (w : World) (hSh : Shares w) : Calls Tryd.prog 10 #[.agg (enV ex1), .int .u8 0] w fun x w' => Below w.heap.size w w' ∧ ∃ A c B d, x = .returned (.tuple #[.slice A 1 c, .slice B 1 d, .int .i64 0]) ∧ Parts w' A [(110, 100)] ∧ Parts w' B [(-110, 100)] := by
  refine (Sides_right ex1 0 w ex1_ok hSh ex1_r (by omega) (.inl rfl)).mono ?_
  rintro x w' ⟨hb, A, c, v, base, rfl, hp, -, -, ho⟩
  rw [ex1_o] at ho
  rw [ex1_n] at hp ⊢
  obtain ⟨B, d, rfl, hq, -⟩ := parts_of_own ho
  exact ⟨hb, A, c, B, d, rfl, hp, hq⟩
theorem call3 (w : World) (hSh : Shares w) : Calls Tryd.prog 10 #[.agg (enV ex3), .int .u8 0] w fun x w' => Below w.heap.size w w' ∧ ∃ A c B d, x = .returned (.tuple #[.slice A 1 c, .slice B 1 d, .int .i64 0]) ∧ Parts w' A [(420, 100)] ∧ Parts w' B [(50, 100)] := by
  refine (Sides_right ex3 0 w ex3_ok hSh ex3_r (by omega) (.inr (.inr rfl))).mono ?_
  rintro x w' ⟨hb, A, c, v, base, rfl, hp, -, -, ho⟩
  rw [ex3_o] at ho
  rw [ex3_n] at hp ⊢
  obtain ⟨B, d, rfl, hq, -⟩ := parts_of_own ho
  exact ⟨hb, A, c, B, d, rfl, hp, hq⟩
theorem call2 (w : World) (hSh : Shares w) : Calls Tryd.prog 12 #[.agg (enV ex2), .int .u8 0] w fun x w' => x = .returned (.tuple #[.agg #[.int .i64 232, .int .i64 1], .agg #[.int .i64 (-232), .int .i64 1], .int .i64 0]) ∧ Below w.heap.size w w' := by
  have h := Mean_right ex2 0 w ex2_ok hSh ex2_r (by omega) (.inr (.inl rfl))
  unfold meanQ at h
  rw [ex2_m, ex2_o] at h
  unfold frV at h
  rw [q232.1, q232.2, q232'.1, q232'.2] at h
  exact h
theorem call4 (w : World) (hSh : Shares w) : Calls Tryd.prog 14 #[.agg (enV ex4), .int .i64 5] w fun x w' => x = .returned (.tuple #[.agg #[.int .i64 24, .int .i64 5], .agg #[.int .i64 16, .int .i64 5], .int .i64 0]) ∧ Below w.heap.size w w' := by
  have h := Award_right ex4 5 w ex4_ok hSh ex4_r (by omega) rfl
  rw [show ex4.a = 60 from rfl, show ex4.b = 40 from rfl] at h
  unfold frV at h
  rw [q24.1, q24.2, q16.1, q16.2] at h
  exact h
theorem call5 (w : World) (hSh : Shares w) : Calls Tryd.prog 10 #[.agg (enV zE), .int .u8 0] w fun x w' => x = .returned (.tuple #[.slice none 0 0, .slice none 0 0, .int .i64 6]) ∧ Below w.heap.size w w' := Sides_none zE 0 w zE_ok hSh zE_r (by omega) (.inl rfl)
theorem call6 (w : World) (hSh : Shares w) : Calls Tryd.prog 17 #[.agg (enV ex2)] w fun x w' => x = .returned (.bool true) ∧ Below w.heap.size w w' := by
  have h := Right_en ex2 w ex2_ok hSh
  rw [ex2_r] at h
  exact h
end Go.Proofs.YtojgjpegfkfnjaaDoor
