/- The reference of chapter 20: Turn, Sum, Top. (NOT BUILT YET when this was committed, see NOTES.) -/
import Derived.Test.YtfajnggdlhbgnaaDoorRefF
namespace Go.Proofs.YtfajnggdlhbgnaaDoor
open Go.RowKit
set_option linter.unusedVariables false
set_option linter.unusedSimpArgs false

theorem refSum_any (n : Int) (w : World) (h : -1073741824 < n ∧ n < 1073741824) : Calls Tryd.prog 26 #[.int .i64 n] w fun e w' => e = .returned (.int .i64 (if n < 1 then 0 else n * (n - 1))) ∧ w = w' := by
  by_cases h1 : n < 1
  · go_enter Tryd.func26, Tryd.ntmps26
    go_wp2
    go_ret
    exact ⟨ret_i (by simp [h1]), rfl⟩
  · have hb := mul_bd n n 1073741824 1073741824 (by omega) (by omega) (by omega) (by omega)
    obtain ⟨M, hM⟩ : ∃ M, n * n = M := ⟨_, rfl⟩
    rw [hM] at hb
    have HM : Sec (n * (n - 1) = M - n) := ⟨by rw [← hM, Int.mul_sub, Int.mul_one]⟩
    have hw1 : IntKind.i64.wrap M = M := IntWalk.i64_in _ ⟨by omega, by omega⟩
    have hw2 : IntKind.i64.wrap (M - n) = M - n := IntWalk.i64_in _ ⟨by omega, by omega⟩
    go_enter Tryd.func26, Tryd.ntmps26
    go_wp2
    go_ret
    exact ⟨ret_i (by rw [HM.out]), rfl⟩
theorem refTop_any (n : Int) (w : World) (h : -1073741824 < n ∧ n < 1073741824) : Calls Tryd.prog 28 #[.int .i64 n] w fun e w' => e = .returned (.int .i64 (if n < 1 then 0 else 2 * (n - 1))) ∧ w = w' := by
  by_cases h1 : n < 1
  · go_enter Tryd.func28, Tryd.ntmps28
    go_wp2
    go_ret
    exact ⟨ret_i (by simp [h1]), rfl⟩
  · go_enter Tryd.func28, Tryd.ntmps28
    go_wp2
    go_ret
    exact ⟨ret_i (by first | omega | (simp; omega)), rfl⟩
end Go.Proofs.YtfajnggdlhbgnaaDoor
