/- frac.Sum over rational numbers; whole. -/
import Derived.Test.YtkocgknidpmcmaaDoorMatF
namespace Go.Proofs.YtkocgknidpmcmaaDoor
open Go.RowKit
set_option linter.unusedVariables false
set_option linter.unusedSimpArgs false

/-- The sum of the first k numbers. -/
def sumQ (l : List Rat) : Nat → Rat
  | 0 => 0
  | k + 1 => sumQ l k + l.getD k 0
theorem sumQ_succ (l : List Rat) (k : Nat) (q : Rat) (h : l[k]? = some q) : sumQ l (k + 1) = sumQ l k + q := by
  rw [sumQ, List.getD_eq_getElem?_getD, h]; rfl

/-- A pair of cells that lies there and may be written. -/
structure Pair (w : World) (g : Nat) (u v : Value) : Prop where
  c0 : w.cell? ⟨g, 0, none⟩ = some u
  c1 : w.cell? ⟨g, 1, none⟩ = some v
  f0 : w.frozen? ⟨g, 0, none⟩ = false
  f1 : w.frozen? ⟨g, 1, none⟩ = false
theorem Pair.lt {w : World} {g : Nat} {u v : Value} (h : Pair w g u v) : g < w.heap.size := World.block_lt_of_cell? _ _ h.c0
theorem Pair.later {w w' : World} {g : Nat} {u v : Value} (h : Pair w g u v) (hb : Below w.heap.size w w') : Pair w' g u v :=
  ⟨cell_later hb h.c0, cell_later hb h.c1, (hb.frozen (p := ⟨g, 0, none⟩) h.lt).trans h.f0, (hb.frozen (p := ⟨g, 1, none⟩) h.lt).trans h.f1⟩
theorem Pair.new (w : World) (u v : Value) (T : Nat) : Pair (w.alloc (.cells #[u, v] T)) w.heap.size u v := by
  refine ⟨?_, ?_, ?_, ?_⟩ <;> go_simp
theorem Pair.lt' {w w' : World} {g : Nat} {u v : Value} (h : Pair w g u v) (hb : Below w.heap.size w w') : g < w'.heap.size := Nat.lt_of_lt_of_le h.lt hb.size

theorem set2 {B : Nat} {a w : World} {g : Nat} {x y : Value} (h : Below B a w) (hg : B ≤ g) : Below B a ((w.setCell ⟨g, 0, none⟩ x).setCell ⟨g, 1, none⟩ y) := (h.setCell (p := ⟨g, 0, none⟩) hg _).setCell (p := ⟨g, 1, none⟩) hg _

def SumRel1 (w : World) (l : List Rat) (i : Value) (wr : World) : Prop :=
  ∃ k : Nat, k ≤ l.length ∧ i = .int .i64 k ∧ Below w.heap.size w wr
def SumRel2 (w : World) (l : List Rat) (i : Value) (wr : World) : Prop :=
  ∃ k : Nat, k ≤ l.length ∧ i = .int .i64 k ∧ Pair wr w.heap.size (.int .i64 (sumQ l k).num) (.int .i64 ((sumQ l k).den : Int)) ∧ Below w.heap.size w wr

set_option maxRecDepth 100000 in
set_option maxHeartbeats 1000000 in
theorem Sum_q (A : Option Addr) (c : Nat) (l : List Rat) (w : World) (hA : Parts w A (l.map qp)) (hl : l.length ≤ 1000) (hf : ∀ q ∈ l, fits q) (hs : ∀ k, k ≤ l.length → fits (sumQ l k)) :
    Calls Tryd.prog 30 #[.slice A l.length c] w fun e w' => e = .returned (.tuple #[.agg #[.int .i64 (sumQ l l.length).num, .int .i64 ((sumQ l l.length).den : Int)], .int .i64 0]) ∧ Below w.heap.size w w' := by
  have HA := Sec.mk hA
  have HF := Sec.mk hf
  have HS := Sec.mk hs
  clear hA hf hs
  go_enter Tryd.func30, Tryd.ntmps30
  go_wp2_with fail
  have HB0 : Sec (Below w.heap.size w (w.alloc (.cells #[.int .i64 0, .int .i64 0] 23))) := ⟨(Below.refl _ _).alloc (Nat.le_refl _) _⟩
  have P0 := Sec.mk (Pair.new w (.int .i64 0) (.int .i64 0) 23)
  have hs0 : (w.alloc (.cells #[.int .i64 0, .int .i64 0] 23)).heap.size = w.heap.size + 1 := by simp
  generalize hw0 : (w.alloc (.cells #[.int .i64 0, .int .i64 0] 23)) = w0 at *
  clear hw0
  go_loopw [13] (fun i wr => SumRel1 w0 l i wr) (fun i _ => l.length - (intOf i).toNat)
  case atStart => exact ⟨0, Nat.zero_le _, rfl, Below.refl _ _⟩
  case round =>
    obtain ⟨k, hk, rfl, hB⟩ := hrel
    have hBs := hB.size
    by_cases hlt : k < l.length
    · obtain ⟨q, hp⟩ : ∃ q, l[k]? = some q := ⟨_, List.getElem?_eq_getElem hlt⟩
      have hp' : (l.map qp)[k]? = some (qp q) := by rw [List.getElem?_map, hp]; rfl
      obtain ⟨b, o, rfl, h1, h2⟩ := (HA.out.later HB0.out).later hB k _ hp'
      have hfq := HF.out q (List.mem_of_getElem? hp)
      have q0 := q.den_pos
      have HR := Sec.mk (fun w' => right_exact q.num q.den w' ⟨hfq.1, hfq.2.1⟩ ⟨by omega, hfq.2.2⟩)
      rw [right_q] at HR
      simp only [qp] at h1 h2
      clear hp hp' hfq q0
      generalize q.num = n1 at *
      generalize (q.den : Int) = d1 at *
      go_wp2_with fail
      refine (HR.out _).mono ?_; rintro e w1 ⟨rfl, k2, rfl⟩
      go_wp2_with fail
      exact ⟨⟨k + 1, hlt, rfl, by repeat (first | exact hB | refine below_drewN ?_ _ | refine Below.alloc ?_ (by first | (simp; done) | (simp; omega) | omega) _)⟩, by simp only [intOf]; omega⟩
    · have P1 := Sec.mk (P0.out.later hB)
      have hBw : Below w.heap.size w wr := HB0.out.trans (hB.mono HB0.out.size)
      have HBw := Sec.mk hBw
      have hsw : w.heap.size < wr.heap.size := by omega
      have HA1 := Sec.mk (HA.out.later hBw)
      clear hB HA HB0 P0 hBw hBs
      rename World => w1
      go_wp2_with fail
      have P2 := Sec.mk (Pair.new w1 (.int .i64 0) (.int .i64 1) 23)
      go_loopw [25] (fun i wr => SumRel2 w1 l i wr) (fun i _ => l.length - (intOf i).toNat)
      case atStart => exact ⟨0, Nat.zero_le _, rfl, P2.out, (Below.refl _ _).alloc (Nat.le_refl _) _⟩
      case round =>
        clear P2
        obtain ⟨m, hm, rfl, hP, hB⟩ := hrel
        have hBs := hB.size
        have hgl := hP.lt
        by_cases hmt : m < l.length
        · obtain ⟨q, hp⟩ : ∃ q, l[m]? = some q := ⟨_, List.getElem?_eq_getElem hmt⟩
          have hp' : (l.map qp)[m]? = some (qp q) := by rw [List.getElem?_map, hp]; rfl
          obtain ⟨b, o, rfl, h1, h2⟩ := HA1.out.later hB m _ hp'
          have hfq := HF.out q (List.mem_of_getElem? hp)
          have hfs := HS.out m hm
          have hfs' := HS.out (m + 1) hmt
          have HQ := Sec.mk (sumQ_succ l m q hp)
          rw [HQ.out] at hfs'
          have HADD := Sec.mk (fun w' => add_q (sumQ l m) q false w' hfs hfq)
          simp only [Bool.false_eq_true, if_false, qN_fits hfs', qD_fits hfs', qE_fits hfs'] at HADD
          simp only [qp] at h1 h2
          rw [← HQ.out] at HADD
          clear hp hp' hfq hfs hfs' HQ
          obtain ⟨c1, c2, c3, c4⟩ := hP
          generalize q.num = n1 at *
          generalize (q.den : Int) = d1 at *
          generalize (sumQ l m).num = n2 at *
          generalize ((sumQ l m).den : Int) = d2 at *
          have EN : Sec ((sumQ l (m + 1)).num = (sumQ l (m + 1)).num ∧ ((sumQ l (m + 1)).den : Int) = ((sumQ l (m + 1)).den : Int)) := ⟨rfl, rfl⟩
          generalize hn3 : (sumQ l (m + 1)).num = n3 at *
          generalize hd3 : ((sumQ l (m + 1)).den : Int) = d3 at *
          have E3 := Sec.mk hn3
          have E4 := Sec.mk hd3
          clear hn3 hd3 EN
          go_wp2_with fail
          refine (HADD.out _).mono ?_; rintro e w2 ⟨rfl, hb⟩
          have hb' : Below wr.heap.size wr w2 := ((Below.refl _ _).alloc (Nat.le_refl _) _).trans (hb.mono (by simp))
          have PP := (Pair.mk c1 c2 c3 c4).later hb'
          obtain ⟨e1, e2, e3, e4⟩ := PP
          have hBw : Below w1.heap.size w1 w2 := hB.trans (hb'.mono hBs)
          have hbs := hb'.size
          have hgl2 : w1.heap.size < w2.heap.size := by omega
          clear hb hb' c1 c2 c3 c4 h1 h2
          go_wp2_with fail
          refine ⟨⟨m + 1, hmt, rfl, ?_, ?_⟩, by simp only [intOf]; omega⟩
          · rw [E3.out, E4.out]
            refine ⟨?_, ?_, ?_, ?_⟩ <;> go_simp
          · exact (set2 hBw (Nat.le_refl _)).alloc (by simp; omega) _
        · have hm0 : m = l.length := by omega
          subst hm0
          obtain ⟨d1, d2, d3, d4⟩ := P1.out.later hB
          obtain ⟨c1, c2, c3, c4⟩ := hP
          go_wp2_with fail
          refine bodyPost_ret (v := .tuple #[.agg #[.int .i64 (sumQ l l.length).num, .int .i64 ((sumQ l l.length).den : Int)], .int .i64 0]) (by simp [results, Tryd.results30, go_sem, d1, d2]) rfl ⟨rfl, ?_⟩
          exact set2 (HBw.out.trans (hB.mono HBw.out.size)) (Nat.le_refl _)
end Go.Proofs.YtkocgknidpmcmaaDoor
