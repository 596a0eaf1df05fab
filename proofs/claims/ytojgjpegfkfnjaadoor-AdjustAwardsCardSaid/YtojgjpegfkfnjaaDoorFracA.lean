/- The contracts of package frac's words of 128 bits. -/
import Derived.Test.YtojgjpegfkfnjaaDoorProg
import Derived.Test.YtojgjpegfkfnjaaDoorNum
import Derived.WalkSpells
import Derived.WalkLawsBesides
import Derived.Lib.Hide
import Derived.Deep.QuietTactic
import Derived.BigQuiet
namespace Go.Proofs.YtojgjpegfkfnjaaDoor
open Go.RowKit
set_option linter.unusedVariables false
set_option linter.unusedSimpArgs false

theorem ret_i {k : IntKind} {a b : Int} (h : a = b) : Ending.returned (.int k a) = .returned (.int k b) := by rw [h]
theorem val_i {k : IntKind} {a b : Int} (h : a = b) : Value.int k a = .int k b := by rw [h]
theorem ret_b {a b : Bool} (h : a = b) : Ending.returned (.bool a) = .returned (.bool b) := by rw [h]
theorem ret_agg2 {k k' : IntKind} {a b c d : Int} (h : a = c) (h' : b = d) : Ending.returned (.agg #[.int k a, .int k' b]) = .returned (.agg #[.int k c, .int k' d]) := by rw [h, h']

set_option maxHeartbeats 400000 in
theorem size_any (n : Int) (w : World) (h1 : -9223372036854775808 ≤ n) (h3 : n ≤ 9223372036854775807) :
    Calls Tryd.prog 48 #[.int .i64 n] w fun e w' => e = .returned (.int .u64 n.natAbs) ∧ w = w' := by
  by_cases h2 : n < 0
  · go_enter Tryd.func48, Tryd.ntmps48
    go_wp2
    go_ret
    exact ⟨ret_i (neg_u64 n h1 h2), rfl⟩
  · go_enter Tryd.func48, Tryd.ntmps48
    go_wp2
    go_ret
    exact ⟨ret_i (by omega), rfl⟩

set_option maxHeartbeats 400000 in
theorem times_exact (a b : Int) (w : World) (h1 : 0 ≤ a) (h2 : a ≤ 18446744073709551615) (h3 : 0 ≤ b) (h4 : b ≤ 18446744073709551615) :
    Calls Tryd.prog 47 #[.int .u64 a, .int .u64 b] w fun e w' =>
      e = .returned (.agg #[.int .u64 (a * b % 18446744073709551616), .int .u64 (a * b / 18446744073709551616)]) ∧
        w.alloc (.cells #[.int .u64 (a * b % 18446744073709551616), .int .u64 (a * b / 18446744073709551616)] 96) = w' := by
  obtain ⟨hp, hq, hr, hs, he⟩ := times_eq a b h1 h2 h3 h4
  have ea := and32 a h1 h2
  have eb := and32 b h3 h4
  have ep := wraps_u64 (a % 4294967296 * (b % 4294967296)) hp.1 (by omega)
  have eq := wraps_u64 (a % 4294967296 * (b / 4294967296)) hq.1 (by omega)
  have er := wraps_u64 (a / 4294967296 * (b % 4294967296)) hr.1 (by omega)
  have es := wraps_u64 (a / 4294967296 * (b / 4294967296)) hs.1 (by omega)
  have fp := and32 (a % 4294967296 * (b % 4294967296)) hp.1 (by omega)
  have fq := and32 (a % 4294967296 * (b / 4294967296)) hq.1 (by omega)
  have fr := and32 (a / 4294967296 * (b % 4294967296)) hr.1 (by omega)
  have HE : Hid (a * b = _) := he
  clear he
  go_enter Tryd.func47, Tryd.ntmps47
  go_wp2
  clear ea eb ep eq er es fp fq fr
  refine bodyPost_ret (v := .agg #[_, _]) (by simp [results, Tryd.results47, go_sem]; exact ⟨rfl, rfl⟩) rfl ?_
  · have h := HE.out
    clear HE
    generalize a % 4294967296 * (b % 4294967296) = p at *
    generalize a % 4294967296 * (b / 4294967296) = q at *
    generalize a / 4294967296 * (b % 4294967296) = r at *
    generalize a / 4294967296 * (b / 4294967296) = s at *
    generalize a * b = ab at *
    obtain ⟨g1, g2⟩ := times_lo p _ ab s q r hp hq hr hs rfl h
    rw [wrap_u64', or32 _ _ (by omega) (by omega) (by omega) (by omega) (by omega), g1, g2]
    exact ⟨rfl, rfl⟩

theorem times_any (a b : Int) (w : World) (h1 : 0 ≤ a) (h2 : a ≤ 18446744073709551615) (h3 : 0 ≤ b) (h4 : b ≤ 18446744073709551615) :
    Calls Tryd.prog 47 #[.int .u64 a, .int .u64 b] w fun e w' =>
      e = .returned (.agg #[.int .u64 (a * b % 18446744073709551616), .int .u64 (a * b / 18446744073709551616)]) ∧ Below w.heap.size w w' :=
  (times_exact a b w h1 h2 h3 h4).mono fun _ _ ⟨he, hw⟩ => ⟨he, by subst hw; exact (Below.refl _ _).alloc (Nat.le_refl _) _⟩

set_option maxHeartbeats 400000 in
theorem gcd_any (a b : Nat) (w : World) (h2 : a ≤ 18446744073709551615) (h4 : b ≤ 18446744073709551615) :
    Calls Tryd.prog 79 #[.int .u64 a, .int .u64 b] w fun e w' => e = .returned (.int .u64 (Nat.gcd a b)) ∧ ∃ n, w' = w.drewN n := by
  go_enter Tryd.func79, Tryd.ntmps79
  go_wp2
  go_loopw [0, 1] (fun u v wr => ∃ x y n : Nat, x ≤ 18446744073709551615 ∧ y ≤ 18446744073709551615 ∧ Hid (Nat.gcd x y = Nat.gcd a b) ∧ u = .int .u64 x ∧ v = .int .u64 y ∧ wr = w.drewN n) (fun _ v _ => (intOf v).toNat)
  case atStart => exact ⟨a, b, 0, h2, h4, rfl, rfl, rfl, rfl⟩
  case round =>
    obtain ⟨x, y, n, hx, hy, hg, rfl, rfl, rfl⟩ := hrel
    by_cases h0 : 0 < y
    · have hm : ((x : Int) % (y : Int)) = ((x % y : Nat) : Int) := rfl
      have hy0 : ¬ ((y : Int) = 0) := by omega
      have hmod := Nat.mod_lt x h0
      go_wp2
      go_quiet (fail)
      go_wp2
      exact ⟨⟨y, x % y, n + nq, hy, by omega, by rw [← hg.out]; exact (gcd_step x y), rfl, rfl, World.drewN_drewN _ _ _⟩, by simp only [intOf, hm]; omega⟩
    · go_wp2
      go_ret
      obtain rfl : y = 0 := by omega
      have := hg.out
      rw [Nat.gcd_zero_right] at this
      exact ⟨by rw [this]; rfl, n, rfl⟩

set_option maxHeartbeats 400000 in
theorem plus_any (a b c d : Int) (w : World) (ha : 0 ≤ a ∧ a ≤ 18446744073709551615) (hb : 0 ≤ b ∧ b ≤ 18446744073709551615) (hc : 0 ≤ c ∧ c ≤ 18446744073709551615) (hd : 0 ≤ d ∧ d ≤ 18446744073709551615)
    (hs : b + d ≤ 18446744073709551614) :
    Calls Tryd.prog 80 #[.agg #[.int .u64 a, .int .u64 b], .agg #[.int .u64 c, .int .u64 d]] w fun e w' =>
      e = .returned (.agg #[.int .u64 ((a + b * 18446744073709551616 + (c + d * 18446744073709551616)) % 18446744073709551616), .int .u64 ((a + b * 18446744073709551616 + (c + d * 18446744073709551616)) / 18446744073709551616)]) ∧ Below w.heap.size w w' := by
  by_cases h : a + c ≤ 18446744073709551615
  · go_enter Tryd.func80, Tryd.ntmps80
    go_wp2
    refine bodyPost_ret (v := .agg #[_, _]) (by simp [results, Tryd.results80, go_sem]; exact ⟨rfl, rfl⟩) rfl ⟨ret_agg2 (by omega) (by omega), ?_⟩
    exact ((((Below.refl _ _).alloc (Nat.le_refl _) _).alloc (by simp) _).alloc (by simp; omega) _)
  · have hw : IntKind.u64.wrap (a + c) = a + c - 18446744073709551616 := by rw [wrap_u64']; omega
    go_enter Tryd.func80, Tryd.ntmps80
    go_wp2
    refine bodyPost_ret (v := .agg #[_, _]) (by simp [results, Tryd.results80, go_sem]; exact ⟨rfl, rfl⟩) rfl ⟨ret_agg2 (by omega) (by omega), ?_⟩
    exact ((((Below.refl _ _).alloc (Nat.le_refl _) _).alloc (by simp) _).alloc (by simp; omega) _)

set_option maxHeartbeats 400000 in
theorem minus_any (a b c d : Int) (w : World) (ha : 0 ≤ a ∧ a ≤ 18446744073709551615) (hb : 0 ≤ b ∧ b ≤ 18446744073709551615) (hc : 0 ≤ c ∧ c ≤ 18446744073709551615) (hd : 0 ≤ d ∧ d ≤ 18446744073709551615)
    (hs : c + d * 18446744073709551616 ≤ a + b * 18446744073709551616) :
    Calls Tryd.prog 81 #[.agg #[.int .u64 a, .int .u64 b], .agg #[.int .u64 c, .int .u64 d]] w fun e w' =>
      e = .returned (.agg #[.int .u64 ((a + b * 18446744073709551616 - (c + d * 18446744073709551616)) % 18446744073709551616), .int .u64 ((a + b * 18446744073709551616 - (c + d * 18446744073709551616)) / 18446744073709551616)]) ∧ Below w.heap.size w w' := by
  by_cases h : a < c
  · have hw : IntKind.u64.wrap (a - c) = a - c + 18446744073709551616 := by rw [wrap_u64']; omega
    go_enter Tryd.func81, Tryd.ntmps81
    go_wp2
    refine bodyPost_ret (v := .agg #[_, _]) (by simp [results, Tryd.results81, go_sem]; exact ⟨rfl, rfl⟩) rfl ⟨ret_agg2 (by omega) (by omega), ?_⟩
    exact ((((Below.refl _ _).alloc (Nat.le_refl _) _).alloc (by simp) _).alloc (by simp; omega) _)
  · go_enter Tryd.func81, Tryd.ntmps81
    go_wp2
    refine bodyPost_ret (v := .agg #[_, _]) (by simp [results, Tryd.results81, go_sem]; exact ⟨rfl, rfl⟩) rfl ⟨ret_agg2 (by omega) (by omega), ?_⟩
    exact ((((Below.refl _ _).alloc (Nat.le_refl _) _).alloc (by simp) _).alloc (by simp; omega) _)

/-- -1, 0, 1. -/
def ord3 (x y : Int) : Int := if x < y then -1 else if y < x then 1 else 0

theorem below_drewN {B : Nat} {a w : World} (h : Below B a w) (n : Nat) : Below B a (w.drewN n) := ⟨h.os, h.tape, h.output, h.size, h.block⟩

def CmpRel (w : World) (a b c d : Int) (v : Value) (wr : World) : Prop :=
  ∃ n, (v = .int .i64 1 ∨ (v = .int .i64 0 ∧ b = d) ∨ (v = .int .i64 (-1) ∧ b = d ∧ a = c)) ∧ wr = ((w.alloc (.cells #[.int .u64 a, .int .u64 b] 96)).alloc (.cells #[.int .u64 c, .int .u64 d] 96)).drewN n

set_option maxHeartbeats 1000000 in
theorem cmpw_any (a b c d : Int) (w : World) (ha : 0 ≤ a ∧ a ≤ 18446744073709551615) (hb : 0 ≤ b ∧ b ≤ 18446744073709551615) (hc : 0 ≤ c ∧ c ≤ 18446744073709551615) (hd : 0 ≤ d ∧ d ≤ 18446744073709551615) :
    Calls Tryd.prog 49 #[.agg #[.int .u64 a, .int .u64 b], .agg #[.int .u64 c, .int .u64 d]] w fun e w' =>
      e = .returned (.int .i64 (ord3 (a + b * 18446744073709551616) (c + d * 18446744073709551616))) ∧ Below w.heap.size w w' := by
  have fin : ∀ n, Below w.heap.size w (((w.alloc (.cells #[.int .u64 a, .int .u64 b] 96)).alloc (.cells #[.int .u64 c, .int .u64 d] 96)).drewN n) := fun n =>
    below_drewN (((Below.refl _ _).alloc (Nat.le_refl _) _).alloc (by simp) _) n
  have HF := Lib.hid fin
  clear fin
  go_enter Tryd.func49, Tryd.ntmps49
  go_wp2
  go_loopw [5] (fun v wr => CmpRel w a b c d v wr) (fun v _ => (intOf v + 1).toNat)
  case atStart => exact ⟨0, .inl rfl, rfl⟩
  case round =>
    obtain ⟨n, hv, rfl⟩ := hrel
    rcases hv with rfl | ⟨rfl, rfl⟩ | ⟨rfl, rfl, rfl⟩
    · rcases Int.lt_trichotomy b d with h | rfl | h
      · go_wp2
        go_quiet (fail)
        go_wp2
        go_ret
        exact ⟨ret_i (by unfold ord3; rw [if_pos (by omega)]), below_drewN (HF.out _) _⟩
      · go_wp2
        go_quiet (fail)
        go_wp2
        go_quiet (fail)
        go_wp2
        exact ⟨⟨_, .inr (.inl ⟨rfl, rfl⟩), rfl⟩, by simp [intOf]⟩
      · go_wp2
        go_quiet (fail)
        go_wp2
        go_quiet (fail)
        go_wp2
        go_ret
        exact ⟨ret_i (by unfold ord3; rw [if_neg (by omega), if_pos (by omega)]), below_drewN (below_drewN (HF.out _) _) _⟩
    · rcases Int.lt_trichotomy a c with h | rfl | h
      · go_wp2
        go_quiet (fail)
        go_wp2
        go_ret
        exact ⟨ret_i (by unfold ord3; rw [if_pos (by omega)]), below_drewN (HF.out _) _⟩
      · go_wp2
        go_quiet (fail)
        go_wp2
        go_quiet (fail)
        go_wp2
        exact ⟨⟨_, .inr (.inr ⟨rfl, rfl, rfl⟩), rfl⟩, by simp [intOf]⟩
      · go_wp2
        go_quiet (fail)
        go_wp2
        go_quiet (fail)
        go_wp2
        go_ret
        exact ⟨ret_i (by unfold ord3; rw [if_neg (by omega), if_pos (by omega)]), below_drewN (below_drewN (HF.out _) _) _⟩
    · go_wp2
      go_ret
      exact ⟨ret_i (by unfold ord3; rw [if_neg (by omega), if_neg (by omega)]), HF.out _⟩
end Go.Proofs.YtojgjpegfkfnjaaDoor
