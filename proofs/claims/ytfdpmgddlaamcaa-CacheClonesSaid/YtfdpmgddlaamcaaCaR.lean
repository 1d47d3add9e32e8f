/- The reference's size of a class: what the call comes to. -/
import Derived.Test.YtfdpmgddlaamcaaCa1
import Derived.Test.YtfdpmgddlaamcaaOwn3
namespace Go.Proofs.YtfdpmgddlaamcaaV
open Go Go.Proofs Go.RowKit
set_option linter.unusedVariables false
set_option linter.unusedSimpArgs false
set_option maxHeartbeats 2000000
theorem refSize_lo {k : Int} (hk : k < 1) (w : World) : Calls Try.prog 97 #[.int .i64 k] w fun e w' => e = .returned (.int .i64 0) ∧ Fr [] w w' := by
  have h1 : decide (k < 1) = true := by simpa using hk
  go_enter Try.func97, Try.ntmps97
  go_wp2
  go_ret
  exact ⟨rfl, (New.mk' w _).fr⟩
theorem refSize_hi {k : Int} (hk : 4 < k) (w : World) : Calls Try.prog 97 #[.int .i64 k] w fun e w' => e = .returned (.int .i64 0) ∧ Fr [] w w' := by
  have h1 : decide (k < 1) = false := by simp; omega
  have h2 : decide (4 < k) = true := by simpa using hk
  have h3 : ¬ (k < 1) := by omega
  go_enter Try.func97, Try.ntmps97
  go_wp2
  go_ret
  exact ⟨rfl, (New.mk' w _).fr⟩
theorem refSize_1 (w : World) : Calls Try.prog 97 #[.int .i64 1] w fun e w' => e = .returned (.int .i64 2) ∧ Fr [] w w' := by
  go_enter Try.func97, Try.ntmps97
  go_wp2
  go_ret
  exact ⟨rfl, (New.mk' w _).fr⟩
theorem refSize_2 (w : World) : Calls Try.prog 97 #[.int .i64 2] w fun e w' => e = .returned (.int .i64 4) ∧ Fr [] w w' := by
  go_enter Try.func97, Try.ntmps97
  go_wp2
  go_ret
  exact ⟨rfl, (New.mk' w _).fr⟩
theorem refSize_3 (w : World) : Calls Try.prog 97 #[.int .i64 3] w fun e w' => e = .returned (.int .i64 8) ∧ Fr [] w w' := by
  go_enter Try.func97, Try.ntmps97
  go_wp2
  go_ret
  exact ⟨rfl, (New.mk' w _).fr⟩
theorem refSize_4 (w : World) : Calls Try.prog 97 #[.int .i64 4] w fun e w' => e = .returned (.int .i64 16) ∧ Fr [] w w' := by
  go_enter Try.func97, Try.ntmps97
  go_wp2
  go_ret
  exact ⟨rfl, (New.mk' w _).fr⟩
theorem refSize_c {K : VK} {w : World} {k : Int} (h : ∀ w', Fr [] w w' → K (.int .i64 (csz k)) w') : C.call Try.prog 97 #[.int .i64 k] w K := by
  have key : Calls Try.prog 97 #[.int .i64 k] w fun e w' => e = .returned (.int .i64 (csz k)) ∧ Fr [] w w' := by
    by_cases c0 : k < 1
    · have e : csz k = 0 := by unfold csz; repeat (rw [if_neg (by omega)])
      rw [e]; exact refSize_lo c0 w
    by_cases c1 : k = 1
    · subst c1; exact refSize_1 w
    by_cases c2 : k = 2
    · subst c2; exact refSize_2 w
    by_cases c3 : k = 3
    · subst c3; exact refSize_3 w
    by_cases c4 : k = 4
    · subst c4; exact refSize_4 w
    have e : csz k = 0 := by unfold csz; repeat (rw [if_neg (by omega)])
    rw [e]; exact refSize_hi (by omega) w
  refine key.mono ?_
  rintro e w' ⟨rfl, hf⟩
  exact ⟨_, rfl, h w' hf⟩
end Go.Proofs.YtfdpmgddlaamcaaV
